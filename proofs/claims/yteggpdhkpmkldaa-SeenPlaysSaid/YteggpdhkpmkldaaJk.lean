import Derived.Test.YteggpdhkpmkldaaJj
namespace Go.Proofs.Yteggpdhkpmkldaa
open Go.RowKit Go.Maps

/-- SeenPlays' loop: the program's and the document's. -/
structure SPl (w W : World) (b g rb : Nat) (v : Value) (room : Int) (l : Sl) : Prop where
  hs : SnAt W b g room l
  hr : RsAt W rb v room l
  hb : Below w.heap.size w W
  bb : w.heap.size ≤ b
  bg : w.heap.size ≤ g
  lb : b < rb
  lg : g < rb
theorem SPl.below {w W W' : World} {b g rb : Nat} {v : Value} {room : Int} {l : Sl} (h : SPl w W b g rb v room l) (hb : Below W.heap.size W W') : SPl w W' b g rb v room l :=
  ⟨h.hs.below hb, h.hr.below hb, h.hb.trans (hb.mono h.hb.size), h.bb, h.bg, h.lb, h.lg⟩
theorem SPl.mods {w W W' : World} {b g rb : Nat} {v : Value} {room : Int} {l : Sl} (h : SPl w W b g rb v room l) {N : Nat} (hm : Mods (fun k => k = N) W W') (h1 : b < N) (h2 : g < N) (h3 : rb < N) (h4 : ∀ k, v.ownBlock = some k → k < N) (h5 : w.heap.size ≤ N) : SPl w W' b g rb v room l :=
  ⟨h.hs.mods hm (by omega) (by omega), h.hr.mods hm (by omega) (fun k hk => by have := h4 k hk; omega), Below.mods h.hb hm (fun k hk => by omega) h.hb.size, h.bb, h.bg, h.lb, h.lg⟩
/-- Behind the program's step. -/
structure SPm (w W W' : World) (b g rb : Nat) (v : Value) (room : Int) (l l' : Sl) : Prop where
  h : SPl w W b g rb v room l
  hs : SnAt W' b g room l'
  hm : Mods (fun k => k = g) W W'
theorem SPm.ref {w W W' : World} {b g rb : Nat} {v : Value} {room : Int} {l l' : Sl} (h : SPm w W W' b g rb v room l l') : RsAt W' rb v room l :=
  h.h.hr.mods h.hm (by have := h.h.lg; omega) (fun k hk => by have := own_block h.h.hr.hown k hk; have := h.h.lg; omega)
theorem SPm.step {w W W' W2 : World} {b g rb : Nat} {v : Value} {room : Int} {l l' : Sl} {e : Ending} {f : Int} (h : SPm w W W' b g rb v room l l') (hp : RsP W' rb v room (f, l') e W2) : e = .returned (.int .i64 f) ∧ ∃ v', SPl w W2 b g rb v' room l' ∧ Mods (fun k => k = rb ∨ v.ownBlock = some k) W' W2 := by
  obtain ⟨he, v', h1, h2, -⟩ := hp
  have hk := own_block h.h.hr.hown
  have hlb := h.h.lb
  have hlg := h.h.lg
  have hbb := h.h.bb
  refine ⟨he, v', ⟨h.hs.mods h2 ?_ ?_, h1, ?_, h.h.bb, h.h.bg, h.h.lb, h.h.lg⟩, h2⟩
  · rintro (hq | hq)
    · omega
    · have := hk _ hq; omega
  · rintro (hq | hq)
    · omega
    · have := hk _ hq; omega
  · have hB1 : Below w.heap.size w W' := Below.mods h.h.hb h.hm (fun k hk => by have := h.h.bg; omega) h.h.hb.size
    exact Below.mods hB1 h2 (fun k hq => by
      rcases hq with hq | hq
      · omega
      · have := hk _ hq; omega) hB1.size

set_option maxHeartbeats 16000000 in
set_option maxRecDepth 100000 in
theorem seenPlays_walk (w : World) (room : Int) (A : Option Addr) (n c : Nat) (ops : List SOp) (hr : Rd w A n 6 (ops.flatMap sopCells)) (hl : ops.length = n) :
    Calls Try.prog 3 #[.int .i64 room, .slice A n c] w fun e w' => e = .returned (.bool true) ∧ Below w.heap.size w w' := by
  have h9 := hr.2.1
  have HR := Lib.hid hr
  have HL := Lib.hid hl
  clear hr hl
  go_enter Try.func3, Try.ntmps3
  go_wp2_with fail
  refine (awake13 _).mono ?_
  rintro e w1 ⟨rfl, hb1⟩
  have hs1 := hb1.size
  go_wp2_with fail
  refine (few14 w1 A n c ops (HR.out.below hb1) HL.out).mono ?_
  obtain ⟨fb, hfb⟩ : ∃ fb, fewB ops = fb := ⟨_, rfl⟩
  rw [hfb]
  rintro e w2 ⟨rfl, hb2⟩
  have hB2 := hb1.trans (hb2.mono hs1)
  have HF := Lib.hid hfb
  have HB2 := Lib.hid hB2
  clear hfb hb1 hb2 hB2
  cases fb with
  | false =>
    go_wp2_with fail
    go_ret
    exact ⟨rfl, HB2.out⟩
  | true =>
  go_wp2_with fail
  refine (sNew_any _ _).mono ?_
  rintro e w3 (⟨rfl, hbad, rfl⟩ | ⟨r1, r2, b, g, rfl, hS, hb, hg, hb3⟩)
  · by_cases g1 : room < 1
    · clear hbad
      go_wp2_with fail
      go_ret
      exact ⟨rfl, HB2.out⟩
    · have g2 : 4096 < room := by omega
      clear hbad
      go_wp2_with fail
      go_ret
      exact ⟨rfl, HB2.out⟩
  have hB3 := HB2.out.trans (hb3.mono HB2.out.size)
  have hbw : w.heap.size ≤ b := Nat.le_trans HB2.out.size hb
  have hgw : w.heap.size ≤ g := Nat.le_trans HB2.out.size hg
  have hlb : b < w3.heap.size := hS.ho.lt
  have hlg : g < w3.heap.size := hS.hm.lt
  have HK0 : Hid (SPl w (w3.alloc (.cells #[.int .i64 room, .slice none 0 0] 32)) b g w3.heap.size (.slice none 0 0) room []) := Lib.hid ⟨hS.alloc _, ⟨Ob.new w3 32 [.int .i64 room, .slice none 0 0], own_nil _ _ _ _, by simp⟩, hB3.alloc hB3.size _, hbw, hgw, hlb, hlg⟩
  clear hS hb3 HB2 hB3
  go_upto_region 11 with (fail)
  refine cutW (fun W => SPl w W b g w3.heap.size (.slice none 0 0) room []) HK0.out ?_
  clear HK0
  generalize w3.heap.size = rb at *
  intro W hK
  have HK0 := Lib.hid hK
  clear hK
  go_wp2_with fail
  go_loopw [47] (fun i wx => ∃ (k : Nat) (v : Value) (l : Sl), k ≤ n ∧ i = .int .i64 k ∧ SPl w wx b g rb v room l) (fun i _ => n - (intOf i).toNat)
  case atStart => exact ⟨0, _, _, by omega, rfl, HK0.out⟩
  case round =>
    clear HK0
    obtain ⟨k, v, l, hk, rfl, hK⟩ := hrel
    have HK := Lib.hid hK
    clear hK
    by_cases hlt : k < n
    · obtain ⟨x, hx⟩ : ∃ x, ops[k]? = some x := ⟨_, List.getElem?_eq_getElem (by have := HL.out; omega)⟩
      obtain ⟨ga, off, hA, hbl, hcell⟩ := sop_cells HR.out hlt hx
      subst hA
      have hsz : x.2.1.size ≤ 200 := by
        have hf := HF.out
        unfold fewB at hf
        simp only [Bool.and_eq_true] at hf
        have := List.all_eq_true.1 hf.1 x (List.mem_of_getElem? hx)
        simp [okOp] at this
        exact this.1
      obtain ⟨xk, xn, xo, xq, xp, xb⟩ := x
      simp only at hsz
      have a : ∀ j, j < 6 → wr.cell? ⟨ga, off + k * 6 + j, none⟩ = [Value.int .i64 xk, .string xn, .string xo, .int .i64 xq, .int .i64 xp, .bool xb][j]? := fun j hj => (HK.out.hb.cell (p := ⟨ga, off + k * 6 + j, none⟩) hbl).trans (hcell j hj)
      have a0 : wr.cell? ⟨ga, off + k * 6, none⟩ = some (.int .i64 xk) := a 0 (by omega)
      have a1 : _ = some _ := a 1 (by omega)
      have a2 : _ = some _ := a 2 (by omega)
      have a3 : _ = some _ := a 3 (by omega)
      have a4 : _ = some _ := a 4 (by omega)
      have a5 : _ = some _ := a 5 (by omega)
      clear hcell a hx
      go_upto_region 14 with (fail)
      have hO := Ob.new wr 36 [.int .i64 xk, .string xn, .string xo, .int .i64 xq, .int .i64 xp, .bool xb]
      refine cutW (fun W => Ob W wr.heap.size 36 [.int .i64 xk, .string xn, .string xo, .int .i64 xq, .int .i64 xp, .bool xb] ∧ SPl w W b g rb v room l) ⟨hO, HK.out.below Below.alloc_set⟩ ?_
      have hgN : g < wr.heap.size := HK.out.hs.hm.lt
      have hrN : rb < wr.heap.size := HK.out.hr.ho.lt
      have hvN : ∀ k, v.ownBlock = some k → k < wr.heap.size := own_lt HK.out.hr.hown
      have HvN := Lib.hid hvN
      clear hO HK a0 a1 a2 a3 a4 a5 hvN
      generalize wr.heap.size = N at *
      rintro W ⟨hO, hK⟩
      have hc := hO.cell
      have HK := Lib.hid hK
      have HO := Lib.hid hO
      clear hO hK
      by_cases k1 : xk = 1
      · subst k1
        obtain ⟨r, hr⟩ : ∃ r, sPut room l xn ⟨xo, xq, xp, xb⟩ = r := ⟨_, rfl⟩
        obtain ⟨f, l2⟩ := r
        have hc1 : ∀ j, Calls Try.prog 16 #[.pointer (some ⟨b, 0, none⟩), .string xn, .agg #[.string xo, .int .i64 xq, .int .i64 xp, .bool xb]] (W.drewN j) fun e w' => e = .returned (.int .i64 f) ∧ SPm w W w' b g rb v room l l2 ∧ Ob w' N 36 [.int .i64 1, .string xn, .string xo, .int .i64 xq, .int .i64 xp, .bool xb] := fun j => by
          have := sPut_any _ b g room l (HK.out.hs.drewN j) xn (by unfold maxLen; omega) ⟨xo, xq, xp, xb⟩
          rw [hr] at this
          exact this.mono fun e w' ⟨he, h1, h2⟩ => ⟨he, ⟨HK.out, h1, ((Mods.refl _ W).drewN j).trans h2⟩, (HO.out.drewN j).mods h2 (by omega)⟩
        have hc2 : ∀ w4, SPm w W w4 b g rb v room l l2 → Ob w4 N 36 [.int .i64 1, .string xn, .string xo, .int .i64 xq, .int .i64 xp, .bool xb] → Calls Try.prog 17 #[.pointer (some ⟨rb, 0, none⟩), .string xn, .agg #[.string xo, .int .i64 xq, .int .i64 xp, .bool xb]] w4 fun e w' => e = .returned (.int .i64 f) ∧ ∃ v', SPl w w' b g rb v' room l2 ∧ Ob w' N 36 [.int .i64 1, .string xn, .string xo, .int .i64 xq, .int .i64 xp, .bool xb] := fun w4 hm ho => by
          have := rsPut w4 rb v room l hm.ref r2 xn hsz ⟨xo, xq, xp, xb⟩
          rw [hr] at this
          refine this.mono fun e w' hp => ?_
          obtain ⟨he, v', h1, h2⟩ := hm.step hp
          refine ⟨he, v', h1, ho.mods h2 ?_⟩
          rintro (hq | hq)
          · omega
          · have := HvN.out _ hq; omega
        have Hc1 := Lib.hid hc1
        have Hc2 := Lib.hid hc2
        have f1 : W.cell? ⟨N, 1, none⟩ = some (.string xn) := hc 1
        have f2 : W.cell? ⟨N, 2, none⟩ = some (.string xo) := hc 2
        have f3 : W.cell? ⟨N, 3, none⟩ = some (.int .i64 xq) := hc 3
        have f4 : W.cell? ⟨N, 4, none⟩ = some (.int .i64 xp) := hc 4
        have f5 : W.cell? ⟨N, 5, none⟩ = some (.bool xb) := hc 5
        clear hc1 hc2 hr
        go_upto_region 16 with (fail)
        go_region_held3 (fun w' => w'.cell? ⟨N, 1, none⟩ = some (.string xn) ∧ w'.cell? ⟨N, 2, none⟩ = some (.string xo) ∧ w'.cell? ⟨N, 3, none⟩ = some (.int .i64 xq) ∧ w'.cell? ⟨N, 4, none⟩ = some (.int .i64 xp) ∧ w'.cell? ⟨N, 5, none⟩ = some (.bool xb)) (first | exact ⟨f1, f2, f3, f4, f5⟩ | exact ⟨g1, g2, g3, g4, g5⟩ | exact ⟨h1, h2, h3, h4, h5⟩ | go_keep)
          (first
            | (go_at_call 16; refine (Hc1.out _).mono ?_; rintro e w4 ⟨rfl, hm4, ho4⟩; have g1 := ho4.cell 1; have g2 := ho4.cell 2; have g3 := ho4.cell 3; have g4 := ho4.cell 4; have g5 := ho4.cell 5; have HM4 := Lib.hid hm4; have HO4 := Lib.hid ho4; clear hm4 ho4)
            | (go_at_call 17; refine (Hc2.out _ HM4.out HO4.out).mono ?_; rintro e w5 ⟨rfl, v2, hp5, ho5⟩; have h1 := ho5.cell 1; have h2 := ho5.cell 2; have h3 := ho5.cell 3; have h4 := ho5.cell 4; have h5 := ho5.cell 5; have HP5 := Lib.hid hp5; have HO5 := Lib.hid ho5; clear hp5 ho5))
        go_upto_region 21 with (fail)
        refine cutW (fun Y => SPl w Y b g rb v2 room l2 ∧ Ob Y N 36 [.int .i64 1, .string xn, .string xo, .int .i64 xq, .int .i64 xp, .bool xb]) ⟨HP5.out, HO5.out⟩ ?_
        clear HK HO hc Hc1 Hc2 HM4 HO4 HP5 HO5 f1 g1 h1 f2 g2 h2 f3 g3 h3 f4 g4 h4 f5 g5 h5

        rintro Y ⟨hK, hO⟩
        have hc := hO.cell
        have hG := sGet_any Y b g room l2 hK.hs xn (by unfold maxLen; omega)
        have hlk := fnd_look l2 xn
        have HK := Lib.hid hK
        have HO := Lib.hid hO
        clear hK hO
        cases hf : fnd l2 xn with
        | none =>
          rw [hf] at hlk
          simp only at hlk
          obtain ⟨hlk1, -⟩ := hlk
          have hlv : lookV l2 xn = zEx := by unfold lookV; rw [hlk1]; rfl
          rw [hlv, hlk1] at hG
          have hG : Calls Try.prog 20 #[.pointer (some ⟨b, 0, none⟩), .string xn] Y fun e w' => e = .returned (.tuple #[.agg #[.string ⟨#[]⟩, .int .i64 0, .int .i64 0, .bool false], .bool false]) ∧ Below Y.heap.size Y w' := hG
          have HG := Lib.hid hG
          clear hG hlv
          go_upto_region 22 with (go_at_call 20; refine HG.out.mono ?_; rintro e w7 ⟨rfl, hb7⟩)
          have hO7 := Ob.new w7 34 [.string ⟨#[]⟩, .int .i64 0, .int .i64 0, .bool false]
          refine cutW (fun Z => SPl w Z b g rb v2 room l2 ∧ Ob Z N 36 [.int .i64 1, .string xn, .string xo, .int .i64 xq, .int .i64 xp, .bool xb] ∧ Ob Z w7.heap.size 34 [.string ⟨#[]⟩, .int .i64 0, .int .i64 0, .bool false]) ⟨(HK.out.below hb7).below Below.alloc_set, (HO.out.below hb7 HO.out.lt).alloc _, hO7⟩ ?_
          clear HK HG hb7 hO7 hc HO
          generalize w7.heap.size = N7 at *
          rintro Z ⟨hK, hO, hO7⟩
          have hK8 := hK.below (Below.alloc_set (o := .cells #[.string ⟨#[]⟩, .int .i64 0, .int .i64 0, .bool false] 39))
          have hO8 := hO.alloc (.cells #[.string ⟨#[]⟩, .int .i64 0, .int .i64 0, .bool false] 39)
          have hO78 := hO7.alloc (.cells #[.string ⟨#[]⟩, .int .i64 0, .int .i64 0, .bool false] 39)
          have hN8 := Ob.new Z 39 [.string ⟨#[]⟩, .int .i64 0, .int .i64 0, .bool false]
          go_upto_region 23 with (fail)
          refine cutW (fun V => SPl w V b g rb v2 room l2 ∧ Ob V N 36 [.int .i64 1, .string xn, .string xo, .int .i64 xq, .int .i64 xp, .bool xb] ∧ Ob V N7 34 [.string ⟨#[]⟩, .int .i64 0, .int .i64 0, .bool false] ∧ Ob V Z.heap.size 39 [.string ⟨#[]⟩, .int .i64 0, .int .i64 0, .bool false] ∧ V.heap.size = Z.heap.size + 1) ⟨hK8, hO8, hO78, hN8, by simp⟩ ?_
          have Hlt := Lib.hid (⟨hK.hs.ho.lt, hK.hs.hm.lt, hK.hr.ho.lt, own_lt hK.hr.hown, hO7.lt, hK.hb.size⟩ : b < Z.heap.size ∧ g < Z.heap.size ∧ rb < Z.heap.size ∧ (∀ k, Value.ownBlock v2 = some k → k < Z.heap.size) ∧ N7 < Z.heap.size ∧ w.heap.size ≤ Z.heap.size)
          clear hK hO hO7 hK8 hO8 hO78 hN8
          generalize Z.heap.size = N8 at *
          rintro V ⟨hK, hO, hO7, hO8, hVs⟩
          have hc := hO.cell
          have hc7 := hO7.cell
          have hc8 := hO8.cell
          have hz8 := hO8.frozen
          have hl8 := hO8.lt
          have hfi := rsFind V rb v2 room l2 xn hK.hr
          unfold fI at hfi
          rw [hf] at hfi
          have HFi := Lib.hid hfi
          have HK := Lib.hid hK
          have HO7 := Lib.hid hO7
          have HO8 := Lib.hid hO8
          clear hfi hK hO hO7 hO8
          go_upto_region 26 with (go_at_call 21; refine HFi.out.mono ?_; rintro e w' ⟨rfl, rfl⟩)
          refine cutW (fun U => SPl w U b g rb v2 room l2 ∧ Ob U N7 34 [.string ⟨#[]⟩, .int .i64 0, .int .i64 0, .bool false] ∧ Ob U N8 39 [.string ⟨#[]⟩, .int .i64 0, .int .i64 0, .bool false]) ⟨HK.out, HO7.out, HO8.out⟩ ?_
          clear HK HO7 HO8 hc hc7 hc8 hz8 hl8 HFi hVs Hlt
          rintro U ⟨hK, hO7, hO8⟩
          have hc7 := hO7.cell
          have hc8 := hO8.cell
          have HK := Lib.hid hK
          clear hK hO7 hO8
          obtain ⟨A5, c5, hv5, hR5, -, -⟩ := own_shape HK.out.hr.hown
          subst hv5
          have hcr := HK.out.hr.ho.cell
          have hlen0 := HK.out.hs.hl
          have hsc : ∀ j, Calls Try.prog 22 #[.pointer (some ⟨b, 0, none⟩)] (U.drewN j) fun e w' => e = .returned (.int .i64 (l2.length : Int)) ∧ ∃ q, w' = U.drewN q := fun j => (sCount_any _ b g room l2 (HK.out.hs.drewN j)).mono fun e w' ⟨he, hw⟩ => ⟨he, j, hw.symm⟩
          have Hsc := Lib.hid hsc
          clear hR5 hsc
          go_quiet ((go_at_call 22; exact Hsc.out _))
          go_wp2_with fail
          go_roundw
          case rel => exact ⟨k + 1, _, _, by omega, by go_num, HK.out.below (Below.drewN (Below.refl _ _) _)⟩
          case measure => simp [intOf]; omega
        | some i =>
          rw [hf] at hlk
          simp only at hlk
          obtain ⟨hil, ⟨yo, yq, yp, yb⟩, hli, hlk1, -⟩ := hlk
          have hlv : lookV l2 xn = ⟨yo, yq, yp, yb⟩ := by unfold lookV; rw [hlk1]; rfl
          rw [hlv, hlk1] at hG
          have hG : Calls Try.prog 20 #[.pointer (some ⟨b, 0, none⟩), .string xn] Y fun e w' => e = .returned (.tuple #[.agg #[.string yo, .int .i64 yq, .int .i64 yp, .bool yb], .bool true]) ∧ Below Y.heap.size Y w' := hG
          have HG := Lib.hid hG
          clear hG hlv
          go_upto_region 22 with (go_at_call 20; refine HG.out.mono ?_; rintro e w7 ⟨rfl, hb7⟩)
          have hO7 := Ob.new w7 34 [.string yo, .int .i64 yq, .int .i64 yp, .bool yb]
          refine cutW (fun Z => SPl w Z b g rb v2 room l2 ∧ Ob Z N 36 [.int .i64 1, .string xn, .string xo, .int .i64 xq, .int .i64 xp, .bool xb] ∧ Ob Z w7.heap.size 34 [.string yo, .int .i64 yq, .int .i64 yp, .bool yb]) ⟨(HK.out.below hb7).below Below.alloc_set, (HO.out.below hb7 HO.out.lt).alloc _, hO7⟩ ?_
          clear HK HG hb7 hO7 hc HO
          generalize w7.heap.size = N7 at *
          rintro Z ⟨hK, hO, hO7⟩
          have hK8 := hK.below (Below.alloc_set (o := .cells #[.string ⟨#[]⟩, .int .i64 0, .int .i64 0, .bool false] 39))
          have hO8 := hO.alloc (.cells #[.string ⟨#[]⟩, .int .i64 0, .int .i64 0, .bool false] 39)
          have hO78 := hO7.alloc (.cells #[.string ⟨#[]⟩, .int .i64 0, .int .i64 0, .bool false] 39)
          have hN8 := Ob.new Z 39 [.string ⟨#[]⟩, .int .i64 0, .int .i64 0, .bool false]
          go_upto_region 23 with (fail)
          refine cutW (fun V => SPl w V b g rb v2 room l2 ∧ Ob V N 36 [.int .i64 1, .string xn, .string xo, .int .i64 xq, .int .i64 xp, .bool xb] ∧ Ob V N7 34 [.string yo, .int .i64 yq, .int .i64 yp, .bool yb] ∧ Ob V Z.heap.size 39 [.string ⟨#[]⟩, .int .i64 0, .int .i64 0, .bool false] ∧ V.heap.size = Z.heap.size + 1) ⟨hK8, hO8, hO78, hN8, by simp⟩ ?_
          have Hlt := Lib.hid (⟨hK.hs.ho.lt, hK.hs.hm.lt, hK.hr.ho.lt, own_lt hK.hr.hown, hO7.lt, hK.hb.size⟩ : b < Z.heap.size ∧ g < Z.heap.size ∧ rb < Z.heap.size ∧ (∀ k, Value.ownBlock v2 = some k → k < Z.heap.size) ∧ N7 < Z.heap.size ∧ w.heap.size ≤ Z.heap.size)
          clear hK hO hO7 hK8 hO8 hO78 hN8
          generalize Z.heap.size = N8 at *
          rintro V ⟨hK, hO, hO7, hO8, hVs⟩
          have hc := hO.cell
          have hc7 := hO7.cell
          have hc8 := hO8.cell
          have hz8 := hO8.frozen
          have hl8 := hO8.lt
          have hfi := rsFind V rb v2 room l2 xn hK.hr
          unfold fI at hfi
          rw [hf] at hfi
          have HFi := Lib.hid hfi
          have HK := Lib.hid hK
          have HO7 := Lib.hid hO7
          have HO8 := Lib.hid hO8
          clear hfi hK hO hO7 hO8
          obtain ⟨g5, cap5, pad5, hv5, -, -, -, -⟩ := own_obs HK.out.hr.hown (by omega)
          obtain ⟨g6, off6, hA6, -, hcell6⟩ := ent_cells (by have := Rd.of_own (A := some ⟨g5, 0, none⟩) (c := cap5) (by rw [← hv5]; exact HK.out.hr.hown); exact this) hil hli
          injection hA6 with hA6
          injection hA6 with hg6 ho6 _
          subst hg6 ho6
          subst hv5
          have a1 : V.cell? ⟨g5, i * 5 + 1, none⟩ = some (.string yo) := by have := hcell6 1 (by omega); simpa [entC] using this
          have a2 : V.cell? ⟨g5, i * 5 + 2, none⟩ = some (.int .i64 yq) := by have := hcell6 2 (by omega); simpa [entC] using this
          have a3 : V.cell? ⟨g5, i * 5 + 3, none⟩ = some (.int .i64 yp) := by have := hcell6 3 (by omega); simpa [entC] using this
          have a4 : V.cell? ⟨g5, i * 5 + 4, none⟩ = some (.bool yb) := by have := hcell6 4 (by omega); simpa [entC] using this
          have hcr := HK.out.hr.ho.cell
          have hi0 : (0 : Int) ≤ (i : Int) := by omega
          have hil2 : (i : Int) < (l2.length : Int) := by omega
          have hg8 : g5 < V.heap.size := blk_of_cell a1
          have HKl := Lib.hid hil
          clear hcell6 hli hlk1
          go_upto_region 26 with (go_at_call 21; refine HFi.out.mono ?_; rintro e w' ⟨rfl, rfl⟩)
          obtain ⟨q1, q2, q3, q4, q5, q6⟩ := Hlt.out
          have hM : Mods (fun k => k = N8) V ((((V.setCell ⟨N8, 0, none⟩ (.string yo)).setCell ⟨N8, 1, none⟩ (.int .i64 yq)).setCell ⟨N8, 2, none⟩ (.int .i64 yp)).setCell ⟨N8, 3, none⟩ (.bool yb)) :=
            ((((Mods.refl (fun k => k = N8) V).setCell (⟨N8, 0, none⟩ : Addr) (.inl rfl) _).setCell (⟨N8, 1, none⟩ : Addr) (.inl rfl) _).setCell (⟨N8, 2, none⟩ : Addr) (.inl rfl) _).setCell (⟨N8, 3, none⟩ : Addr) (.inl rfl) _
          refine cutW (fun U => SPl w U b g rb (.slice (some ⟨g5, 0, none⟩) l2.length cap5) room l2 ∧ Ob U N7 34 [.string yo, .int .i64 yq, .int .i64 yp, .bool yb] ∧ Ob U N8 39 [.string yo, .int .i64 yq, .int .i64 yp, .bool yb]) ⟨HK.out.mods hM q1 q2 q3 q4 q6, HO7.out.mods hM (by omega), (((Ob.set HO8.out 0 (.string yo)).set 1 (.int .i64 yq)).set 2 (.int .i64 yp)).set 3 (.bool yb)⟩ ?_
          clear HK HO7 HO8 hc hc7 hc8 hz8 hl8 HFi hVs Hlt hM q1 q2 q3 q4 q5 q6 a1 a2 a3 a4 hcr hg8 HKl hil hil2
          rintro U ⟨hK, hO7, hO8⟩
          have hc7 := hO7.cell
          have hc8 := hO8.cell
          have HK := Lib.hid hK
          clear hK hO7 hO8
          have hcr := HK.out.hr.ho.cell
          have hlen0 := HK.out.hs.hl
          have hsc : ∀ j, Calls Try.prog 22 #[.pointer (some ⟨b, 0, none⟩)] (U.drewN j) fun e w' => e = .returned (.int .i64 (l2.length : Int)) ∧ ∃ q, w' = U.drewN q := fun j => (sCount_any _ b g room l2 (HK.out.hs.drewN j)).mono fun e w' ⟨he, hw⟩ => ⟨he, j, hw.symm⟩
          have Hsc := Lib.hid hsc
          clear hsc
          go_quiet ((go_at_call 22; exact Hsc.out _))
          go_wp2_with fail
          go_roundw
          case rel => exact ⟨k + 1, _, _, by omega, by go_num, HK.out.below (Below.drewN (Below.refl _ _) _)⟩
          case measure => simp [intOf]; omega
      have k1b : (xk == 1) = false := by simpa using k1
      by_cases k2 : xk = 2
      · subst k2
        obtain ⟨r, hr⟩ : ∃ r, sBust l xn = r := ⟨_, rfl⟩
        obtain ⟨f, l2⟩ := r
        have hc1 : ∀ j, Calls Try.prog 18 #[.pointer (some ⟨b, 0, none⟩), .string xn] (W.drewN j) fun e w' => e = .returned (.int .i64 f) ∧ SPm w W w' b g rb v room l l2 ∧ Ob w' N 36 [.int .i64 2, .string xn, .string xo, .int .i64 xq, .int .i64 xp, .bool xb] := fun j => by
          have := sBust_any _ b g room l (HK.out.hs.drewN j) xn (by unfold maxLen; omega)
          rw [hr] at this
          exact this.mono fun e w' ⟨he, h1, h2⟩ => ⟨he, ⟨HK.out, h1, ((Mods.refl _ W).drewN j).trans h2⟩, (HO.out.drewN j).mods h2 (by omega)⟩
        have hc2 : ∀ w4, SPm w W w4 b g rb v room l l2 → Ob w4 N 36 [.int .i64 2, .string xn, .string xo, .int .i64 xq, .int .i64 xp, .bool xb] → Calls Try.prog 19 #[.pointer (some ⟨rb, 0, none⟩), .string xn] w4 fun e w' => e = .returned (.int .i64 f) ∧ ∃ v', SPl w w' b g rb v' room l2 ∧ Ob w' N 36 [.int .i64 2, .string xn, .string xo, .int .i64 xq, .int .i64 xp, .bool xb] := fun w4 hm ho => by
          have := rsBust w4 rb v room l hm.ref xn
          rw [hr] at this
          refine this.mono fun e w' hp => ?_
          obtain ⟨he, v', h1, h2⟩ := hm.step hp
          refine ⟨he, v', h1, ho.mods h2 ?_⟩
          rintro (hq | hq)
          · omega
          · have := HvN.out _ hq; omega
        have Hc1 := Lib.hid hc1
        have Hc2 := Lib.hid hc2
        have f1 : W.cell? ⟨N, 1, none⟩ = some (.string xn) := hc 1
        clear hc1 hc2 hr
        go_upto_region 19 with (fail)
        go_region_held3 (fun w' => w'.cell? ⟨N, 1, none⟩ = some (.string xn)) (first | exact f1 | exact g1 | exact h1 | go_keep)
          (first
            | (go_at_call 18; refine (Hc1.out _).mono ?_; rintro e w4 ⟨rfl, hm4, ho4⟩; have g1 := ho4.cell 1; have HM4 := Lib.hid hm4; have HO4 := Lib.hid ho4; clear hm4 ho4)
            | (go_at_call 19; refine (Hc2.out _ HM4.out HO4.out).mono ?_; rintro e w5 ⟨rfl, v2, hp5, ho5⟩; have h1 := ho5.cell 1; have HP5 := Lib.hid hp5; have HO5 := Lib.hid ho5; clear hp5 ho5))
        go_upto_region 21 with (fail)
        refine cutW (fun Y => SPl w Y b g rb v2 room l2 ∧ Ob Y N 36 [.int .i64 2, .string xn, .string xo, .int .i64 xq, .int .i64 xp, .bool xb]) ⟨HP5.out, HO5.out⟩ ?_
        clear HK HO hc Hc1 Hc2 HM4 HO4 HP5 HO5 f1 g1 h1

        rintro Y ⟨hK, hO⟩
        have hc := hO.cell
        have hG := sGet_any Y b g room l2 hK.hs xn (by unfold maxLen; omega)
        have hlk := fnd_look l2 xn
        have HK := Lib.hid hK
        have HO := Lib.hid hO
        clear hK hO
        cases hf : fnd l2 xn with
        | none =>
          rw [hf] at hlk
          simp only at hlk
          obtain ⟨hlk1, -⟩ := hlk
          have hlv : lookV l2 xn = zEx := by unfold lookV; rw [hlk1]; rfl
          rw [hlv, hlk1] at hG
          have hG : Calls Try.prog 20 #[.pointer (some ⟨b, 0, none⟩), .string xn] Y fun e w' => e = .returned (.tuple #[.agg #[.string ⟨#[]⟩, .int .i64 0, .int .i64 0, .bool false], .bool false]) ∧ Below Y.heap.size Y w' := hG
          have HG := Lib.hid hG
          clear hG hlv
          go_upto_region 22 with (go_at_call 20; refine HG.out.mono ?_; rintro e w7 ⟨rfl, hb7⟩)
          have hO7 := Ob.new w7 34 [.string ⟨#[]⟩, .int .i64 0, .int .i64 0, .bool false]
          refine cutW (fun Z => SPl w Z b g rb v2 room l2 ∧ Ob Z N 36 [.int .i64 2, .string xn, .string xo, .int .i64 xq, .int .i64 xp, .bool xb] ∧ Ob Z w7.heap.size 34 [.string ⟨#[]⟩, .int .i64 0, .int .i64 0, .bool false]) ⟨(HK.out.below hb7).below Below.alloc_set, (HO.out.below hb7 HO.out.lt).alloc _, hO7⟩ ?_
          clear HK HG hb7 hO7 hc HO
          generalize w7.heap.size = N7 at *
          rintro Z ⟨hK, hO, hO7⟩
          have hK8 := hK.below (Below.alloc_set (o := .cells #[.string ⟨#[]⟩, .int .i64 0, .int .i64 0, .bool false] 39))
          have hO8 := hO.alloc (.cells #[.string ⟨#[]⟩, .int .i64 0, .int .i64 0, .bool false] 39)
          have hO78 := hO7.alloc (.cells #[.string ⟨#[]⟩, .int .i64 0, .int .i64 0, .bool false] 39)
          have hN8 := Ob.new Z 39 [.string ⟨#[]⟩, .int .i64 0, .int .i64 0, .bool false]
          go_upto_region 23 with (fail)
          refine cutW (fun V => SPl w V b g rb v2 room l2 ∧ Ob V N 36 [.int .i64 2, .string xn, .string xo, .int .i64 xq, .int .i64 xp, .bool xb] ∧ Ob V N7 34 [.string ⟨#[]⟩, .int .i64 0, .int .i64 0, .bool false] ∧ Ob V Z.heap.size 39 [.string ⟨#[]⟩, .int .i64 0, .int .i64 0, .bool false] ∧ V.heap.size = Z.heap.size + 1) ⟨hK8, hO8, hO78, hN8, by simp⟩ ?_
          have Hlt := Lib.hid (⟨hK.hs.ho.lt, hK.hs.hm.lt, hK.hr.ho.lt, own_lt hK.hr.hown, hO7.lt, hK.hb.size⟩ : b < Z.heap.size ∧ g < Z.heap.size ∧ rb < Z.heap.size ∧ (∀ k, Value.ownBlock v2 = some k → k < Z.heap.size) ∧ N7 < Z.heap.size ∧ w.heap.size ≤ Z.heap.size)
          clear hK hO hO7 hK8 hO8 hO78 hN8
          generalize Z.heap.size = N8 at *
          rintro V ⟨hK, hO, hO7, hO8, hVs⟩
          have hc := hO.cell
          have hc7 := hO7.cell
          have hc8 := hO8.cell
          have hz8 := hO8.frozen
          have hl8 := hO8.lt
          have hfi := rsFind V rb v2 room l2 xn hK.hr
          unfold fI at hfi
          rw [hf] at hfi
          have HFi := Lib.hid hfi
          have HK := Lib.hid hK
          have HO7 := Lib.hid hO7
          have HO8 := Lib.hid hO8
          clear hfi hK hO hO7 hO8
          go_upto_region 26 with (go_at_call 21; refine HFi.out.mono ?_; rintro e w' ⟨rfl, rfl⟩)
          refine cutW (fun U => SPl w U b g rb v2 room l2 ∧ Ob U N7 34 [.string ⟨#[]⟩, .int .i64 0, .int .i64 0, .bool false] ∧ Ob U N8 39 [.string ⟨#[]⟩, .int .i64 0, .int .i64 0, .bool false]) ⟨HK.out, HO7.out, HO8.out⟩ ?_
          clear HK HO7 HO8 hc hc7 hc8 hz8 hl8 HFi hVs Hlt
          rintro U ⟨hK, hO7, hO8⟩
          have hc7 := hO7.cell
          have hc8 := hO8.cell
          have HK := Lib.hid hK
          clear hK hO7 hO8
          obtain ⟨A5, c5, hv5, hR5, -, -⟩ := own_shape HK.out.hr.hown
          subst hv5
          have hcr := HK.out.hr.ho.cell
          have hlen0 := HK.out.hs.hl
          have hsc : ∀ j, Calls Try.prog 22 #[.pointer (some ⟨b, 0, none⟩)] (U.drewN j) fun e w' => e = .returned (.int .i64 (l2.length : Int)) ∧ ∃ q, w' = U.drewN q := fun j => (sCount_any _ b g room l2 (HK.out.hs.drewN j)).mono fun e w' ⟨he, hw⟩ => ⟨he, j, hw.symm⟩
          have Hsc := Lib.hid hsc
          clear hR5 hsc
          go_quiet ((go_at_call 22; exact Hsc.out _))
          go_wp2_with fail
          go_roundw
          case rel => exact ⟨k + 1, _, _, by omega, by go_num, HK.out.below (Below.drewN (Below.refl _ _) _)⟩
          case measure => simp [intOf]; omega
        | some i =>
          rw [hf] at hlk
          simp only at hlk
          obtain ⟨hil, ⟨yo, yq, yp, yb⟩, hli, hlk1, -⟩ := hlk
          have hlv : lookV l2 xn = ⟨yo, yq, yp, yb⟩ := by unfold lookV; rw [hlk1]; rfl
          rw [hlv, hlk1] at hG
          have hG : Calls Try.prog 20 #[.pointer (some ⟨b, 0, none⟩), .string xn] Y fun e w' => e = .returned (.tuple #[.agg #[.string yo, .int .i64 yq, .int .i64 yp, .bool yb], .bool true]) ∧ Below Y.heap.size Y w' := hG
          have HG := Lib.hid hG
          clear hG hlv
          go_upto_region 22 with (go_at_call 20; refine HG.out.mono ?_; rintro e w7 ⟨rfl, hb7⟩)
          have hO7 := Ob.new w7 34 [.string yo, .int .i64 yq, .int .i64 yp, .bool yb]
          refine cutW (fun Z => SPl w Z b g rb v2 room l2 ∧ Ob Z N 36 [.int .i64 2, .string xn, .string xo, .int .i64 xq, .int .i64 xp, .bool xb] ∧ Ob Z w7.heap.size 34 [.string yo, .int .i64 yq, .int .i64 yp, .bool yb]) ⟨(HK.out.below hb7).below Below.alloc_set, (HO.out.below hb7 HO.out.lt).alloc _, hO7⟩ ?_
          clear HK HG hb7 hO7 hc HO
          generalize w7.heap.size = N7 at *
          rintro Z ⟨hK, hO, hO7⟩
          have hK8 := hK.below (Below.alloc_set (o := .cells #[.string ⟨#[]⟩, .int .i64 0, .int .i64 0, .bool false] 39))
          have hO8 := hO.alloc (.cells #[.string ⟨#[]⟩, .int .i64 0, .int .i64 0, .bool false] 39)
          have hO78 := hO7.alloc (.cells #[.string ⟨#[]⟩, .int .i64 0, .int .i64 0, .bool false] 39)
          have hN8 := Ob.new Z 39 [.string ⟨#[]⟩, .int .i64 0, .int .i64 0, .bool false]
          go_upto_region 23 with (fail)
          refine cutW (fun V => SPl w V b g rb v2 room l2 ∧ Ob V N 36 [.int .i64 2, .string xn, .string xo, .int .i64 xq, .int .i64 xp, .bool xb] ∧ Ob V N7 34 [.string yo, .int .i64 yq, .int .i64 yp, .bool yb] ∧ Ob V Z.heap.size 39 [.string ⟨#[]⟩, .int .i64 0, .int .i64 0, .bool false] ∧ V.heap.size = Z.heap.size + 1) ⟨hK8, hO8, hO78, hN8, by simp⟩ ?_
          have Hlt := Lib.hid (⟨hK.hs.ho.lt, hK.hs.hm.lt, hK.hr.ho.lt, own_lt hK.hr.hown, hO7.lt, hK.hb.size⟩ : b < Z.heap.size ∧ g < Z.heap.size ∧ rb < Z.heap.size ∧ (∀ k, Value.ownBlock v2 = some k → k < Z.heap.size) ∧ N7 < Z.heap.size ∧ w.heap.size ≤ Z.heap.size)
          clear hK hO hO7 hK8 hO8 hO78 hN8
          generalize Z.heap.size = N8 at *
          rintro V ⟨hK, hO, hO7, hO8, hVs⟩
          have hc := hO.cell
          have hc7 := hO7.cell
          have hc8 := hO8.cell
          have hz8 := hO8.frozen
          have hl8 := hO8.lt
          have hfi := rsFind V rb v2 room l2 xn hK.hr
          unfold fI at hfi
          rw [hf] at hfi
          have HFi := Lib.hid hfi
          have HK := Lib.hid hK
          have HO7 := Lib.hid hO7
          have HO8 := Lib.hid hO8
          clear hfi hK hO hO7 hO8
          obtain ⟨g5, cap5, pad5, hv5, -, -, -, -⟩ := own_obs HK.out.hr.hown (by omega)
          obtain ⟨g6, off6, hA6, -, hcell6⟩ := ent_cells (by have := Rd.of_own (A := some ⟨g5, 0, none⟩) (c := cap5) (by rw [← hv5]; exact HK.out.hr.hown); exact this) hil hli
          injection hA6 with hA6
          injection hA6 with hg6 ho6 _
          subst hg6 ho6
          subst hv5
          have a1 : V.cell? ⟨g5, i * 5 + 1, none⟩ = some (.string yo) := by have := hcell6 1 (by omega); simpa [entC] using this
          have a2 : V.cell? ⟨g5, i * 5 + 2, none⟩ = some (.int .i64 yq) := by have := hcell6 2 (by omega); simpa [entC] using this
          have a3 : V.cell? ⟨g5, i * 5 + 3, none⟩ = some (.int .i64 yp) := by have := hcell6 3 (by omega); simpa [entC] using this
          have a4 : V.cell? ⟨g5, i * 5 + 4, none⟩ = some (.bool yb) := by have := hcell6 4 (by omega); simpa [entC] using this
          have hcr := HK.out.hr.ho.cell
          have hi0 : (0 : Int) ≤ (i : Int) := by omega
          have hil2 : (i : Int) < (l2.length : Int) := by omega
          have hg8 : g5 < V.heap.size := blk_of_cell a1
          have HKl := Lib.hid hil
          clear hcell6 hli hlk1
          go_upto_region 26 with (go_at_call 21; refine HFi.out.mono ?_; rintro e w' ⟨rfl, rfl⟩)
          obtain ⟨q1, q2, q3, q4, q5, q6⟩ := Hlt.out
          have hM : Mods (fun k => k = N8) V ((((V.setCell ⟨N8, 0, none⟩ (.string yo)).setCell ⟨N8, 1, none⟩ (.int .i64 yq)).setCell ⟨N8, 2, none⟩ (.int .i64 yp)).setCell ⟨N8, 3, none⟩ (.bool yb)) :=
            ((((Mods.refl (fun k => k = N8) V).setCell (⟨N8, 0, none⟩ : Addr) (.inl rfl) _).setCell (⟨N8, 1, none⟩ : Addr) (.inl rfl) _).setCell (⟨N8, 2, none⟩ : Addr) (.inl rfl) _).setCell (⟨N8, 3, none⟩ : Addr) (.inl rfl) _
          refine cutW (fun U => SPl w U b g rb (.slice (some ⟨g5, 0, none⟩) l2.length cap5) room l2 ∧ Ob U N7 34 [.string yo, .int .i64 yq, .int .i64 yp, .bool yb] ∧ Ob U N8 39 [.string yo, .int .i64 yq, .int .i64 yp, .bool yb]) ⟨HK.out.mods hM q1 q2 q3 q4 q6, HO7.out.mods hM (by omega), (((Ob.set HO8.out 0 (.string yo)).set 1 (.int .i64 yq)).set 2 (.int .i64 yp)).set 3 (.bool yb)⟩ ?_
          clear HK HO7 HO8 hc hc7 hc8 hz8 hl8 HFi hVs Hlt hM q1 q2 q3 q4 q5 q6 a1 a2 a3 a4 hcr hg8 HKl hil hil2
          rintro U ⟨hK, hO7, hO8⟩
          have hc7 := hO7.cell
          have hc8 := hO8.cell
          have HK := Lib.hid hK
          clear hK hO7 hO8
          have hcr := HK.out.hr.ho.cell
          have hlen0 := HK.out.hs.hl
          have hsc : ∀ j, Calls Try.prog 22 #[.pointer (some ⟨b, 0, none⟩)] (U.drewN j) fun e w' => e = .returned (.int .i64 (l2.length : Int)) ∧ ∃ q, w' = U.drewN q := fun j => (sCount_any _ b g room l2 (HK.out.hs.drewN j)).mono fun e w' ⟨he, hw⟩ => ⟨he, j, hw.symm⟩
          have Hsc := Lib.hid hsc
          clear hsc
          go_quiet ((go_at_call 22; exact Hsc.out _))
          go_wp2_with fail
          go_roundw
          case rel => exact ⟨k + 1, _, _, by omega, by go_num, HK.out.below (Below.drewN (Below.refl _ _) _)⟩
          case measure => simp [intOf]; omega
      have k2b : (xk == 2) = false := by simpa using k2
      go_upto_region 21 with (fail)
      refine cutW (fun Y => SPl w Y b g rb v room l ∧ Ob Y N 36 [.int .i64 xk, .string xn, .string xo, .int .i64 xq, .int .i64 xp, .bool xb]) ⟨HK.out, HO.out⟩ ?_
      clear HK HO hc
      rintro Y ⟨hK, hO⟩
      have hc := hO.cell
      have hG := sGet_any Y b g room l hK.hs xn (by unfold maxLen; omega)
      have hlk := fnd_look l xn
      have HK := Lib.hid hK
      have HO := Lib.hid hO
      clear hK hO
      cases hf : fnd l xn with
      | none =>
        rw [hf] at hlk
        simp only at hlk
        obtain ⟨hlk1, -⟩ := hlk
        have hlv : lookV l xn = zEx := by unfold lookV; rw [hlk1]; rfl
        rw [hlv, hlk1] at hG
        have hG : Calls Try.prog 20 #[.pointer (some ⟨b, 0, none⟩), .string xn] Y fun e w' => e = .returned (.tuple #[.agg #[.string ⟨#[]⟩, .int .i64 0, .int .i64 0, .bool false], .bool false]) ∧ Below Y.heap.size Y w' := hG
        have HG := Lib.hid hG
        clear hG hlv
        go_upto_region 22 with (go_at_call 20; refine HG.out.mono ?_; rintro e w7 ⟨rfl, hb7⟩)
        have hO7 := Ob.new w7 34 [.string ⟨#[]⟩, .int .i64 0, .int .i64 0, .bool false]
        refine cutW (fun Z => SPl w Z b g rb v room l ∧ Ob Z N 36 [.int .i64 xk, .string xn, .string xo, .int .i64 xq, .int .i64 xp, .bool xb] ∧ Ob Z w7.heap.size 34 [.string ⟨#[]⟩, .int .i64 0, .int .i64 0, .bool false]) ⟨(HK.out.below hb7).below Below.alloc_set, (HO.out.below hb7 HO.out.lt).alloc _, hO7⟩ ?_
        clear HK HG hb7 hO7 hc HO
        generalize w7.heap.size = N7 at *
        rintro Z ⟨hK, hO, hO7⟩
        have hK8 := hK.below (Below.alloc_set (o := .cells #[.string ⟨#[]⟩, .int .i64 0, .int .i64 0, .bool false] 39))
        have hO8 := hO.alloc (.cells #[.string ⟨#[]⟩, .int .i64 0, .int .i64 0, .bool false] 39)
        have hO78 := hO7.alloc (.cells #[.string ⟨#[]⟩, .int .i64 0, .int .i64 0, .bool false] 39)
        have hN8 := Ob.new Z 39 [.string ⟨#[]⟩, .int .i64 0, .int .i64 0, .bool false]
        go_upto_region 23 with (fail)
        refine cutW (fun V => SPl w V b g rb v room l ∧ Ob V N 36 [.int .i64 xk, .string xn, .string xo, .int .i64 xq, .int .i64 xp, .bool xb] ∧ Ob V N7 34 [.string ⟨#[]⟩, .int .i64 0, .int .i64 0, .bool false] ∧ Ob V Z.heap.size 39 [.string ⟨#[]⟩, .int .i64 0, .int .i64 0, .bool false] ∧ V.heap.size = Z.heap.size + 1) ⟨hK8, hO8, hO78, hN8, by simp⟩ ?_
        have Hlt := Lib.hid (⟨hK.hs.ho.lt, hK.hs.hm.lt, hK.hr.ho.lt, own_lt hK.hr.hown, hO7.lt, hK.hb.size⟩ : b < Z.heap.size ∧ g < Z.heap.size ∧ rb < Z.heap.size ∧ (∀ k, Value.ownBlock v = some k → k < Z.heap.size) ∧ N7 < Z.heap.size ∧ w.heap.size ≤ Z.heap.size)
        clear hK hO hO7 hK8 hO8 hO78 hN8
        generalize Z.heap.size = N8 at *
        rintro V ⟨hK, hO, hO7, hO8, hVs⟩
        have hc := hO.cell
        have hc7 := hO7.cell
        have hc8 := hO8.cell
        have hz8 := hO8.frozen
        have hl8 := hO8.lt
        have hfi := rsFind V rb v room l xn hK.hr
        unfold fI at hfi
        rw [hf] at hfi
        have HFi := Lib.hid hfi
        have HK := Lib.hid hK
        have HO7 := Lib.hid hO7
        have HO8 := Lib.hid hO8
        clear hfi hK hO hO7 hO8
        go_upto_region 26 with (go_at_call 21; refine HFi.out.mono ?_; rintro e w' ⟨rfl, rfl⟩)
        refine cutW (fun U => SPl w U b g rb v room l ∧ Ob U N7 34 [.string ⟨#[]⟩, .int .i64 0, .int .i64 0, .bool false] ∧ Ob U N8 39 [.string ⟨#[]⟩, .int .i64 0, .int .i64 0, .bool false]) ⟨HK.out, HO7.out, HO8.out⟩ ?_
        clear HK HO7 HO8 hc hc7 hc8 hz8 hl8 HFi hVs Hlt
        rintro U ⟨hK, hO7, hO8⟩
        have hc7 := hO7.cell
        have hc8 := hO8.cell
        have HK := Lib.hid hK
        clear hK hO7 hO8
        obtain ⟨A5, c5, hv5, hR5, -, -⟩ := own_shape HK.out.hr.hown
        subst hv5
        have hcr := HK.out.hr.ho.cell
        have hlen0 := HK.out.hs.hl
        have hsc : ∀ j, Calls Try.prog 22 #[.pointer (some ⟨b, 0, none⟩)] (U.drewN j) fun e w' => e = .returned (.int .i64 (l.length : Int)) ∧ ∃ q, w' = U.drewN q := fun j => (sCount_any _ b g room l (HK.out.hs.drewN j)).mono fun e w' ⟨he, hw⟩ => ⟨he, j, hw.symm⟩
        have Hsc := Lib.hid hsc
        clear hR5 hsc
        go_quiet ((go_at_call 22; exact Hsc.out _))
        go_wp2_with fail
        go_roundw
        case rel => exact ⟨k + 1, _, _, by omega, by go_num, HK.out.below (Below.drewN (Below.refl _ _) _)⟩
        case measure => simp [intOf]; omega
      | some i =>
        rw [hf] at hlk
        simp only at hlk
        obtain ⟨hil, ⟨yo, yq, yp, yb⟩, hli, hlk1, -⟩ := hlk
        have hlv : lookV l xn = ⟨yo, yq, yp, yb⟩ := by unfold lookV; rw [hlk1]; rfl
        rw [hlv, hlk1] at hG
        have hG : Calls Try.prog 20 #[.pointer (some ⟨b, 0, none⟩), .string xn] Y fun e w' => e = .returned (.tuple #[.agg #[.string yo, .int .i64 yq, .int .i64 yp, .bool yb], .bool true]) ∧ Below Y.heap.size Y w' := hG
        have HG := Lib.hid hG
        clear hG hlv
        go_upto_region 22 with (go_at_call 20; refine HG.out.mono ?_; rintro e w7 ⟨rfl, hb7⟩)
        have hO7 := Ob.new w7 34 [.string yo, .int .i64 yq, .int .i64 yp, .bool yb]
        refine cutW (fun Z => SPl w Z b g rb v room l ∧ Ob Z N 36 [.int .i64 xk, .string xn, .string xo, .int .i64 xq, .int .i64 xp, .bool xb] ∧ Ob Z w7.heap.size 34 [.string yo, .int .i64 yq, .int .i64 yp, .bool yb]) ⟨(HK.out.below hb7).below Below.alloc_set, (HO.out.below hb7 HO.out.lt).alloc _, hO7⟩ ?_
        clear HK HG hb7 hO7 hc HO
        generalize w7.heap.size = N7 at *
        rintro Z ⟨hK, hO, hO7⟩
        have hK8 := hK.below (Below.alloc_set (o := .cells #[.string ⟨#[]⟩, .int .i64 0, .int .i64 0, .bool false] 39))
        have hO8 := hO.alloc (.cells #[.string ⟨#[]⟩, .int .i64 0, .int .i64 0, .bool false] 39)
        have hO78 := hO7.alloc (.cells #[.string ⟨#[]⟩, .int .i64 0, .int .i64 0, .bool false] 39)
        have hN8 := Ob.new Z 39 [.string ⟨#[]⟩, .int .i64 0, .int .i64 0, .bool false]
        go_upto_region 23 with (fail)
        refine cutW (fun V => SPl w V b g rb v room l ∧ Ob V N 36 [.int .i64 xk, .string xn, .string xo, .int .i64 xq, .int .i64 xp, .bool xb] ∧ Ob V N7 34 [.string yo, .int .i64 yq, .int .i64 yp, .bool yb] ∧ Ob V Z.heap.size 39 [.string ⟨#[]⟩, .int .i64 0, .int .i64 0, .bool false] ∧ V.heap.size = Z.heap.size + 1) ⟨hK8, hO8, hO78, hN8, by simp⟩ ?_
        have Hlt := Lib.hid (⟨hK.hs.ho.lt, hK.hs.hm.lt, hK.hr.ho.lt, own_lt hK.hr.hown, hO7.lt, hK.hb.size⟩ : b < Z.heap.size ∧ g < Z.heap.size ∧ rb < Z.heap.size ∧ (∀ k, Value.ownBlock v = some k → k < Z.heap.size) ∧ N7 < Z.heap.size ∧ w.heap.size ≤ Z.heap.size)
        clear hK hO hO7 hK8 hO8 hO78 hN8
        generalize Z.heap.size = N8 at *
        rintro V ⟨hK, hO, hO7, hO8, hVs⟩
        have hc := hO.cell
        have hc7 := hO7.cell
        have hc8 := hO8.cell
        have hz8 := hO8.frozen
        have hl8 := hO8.lt
        have hfi := rsFind V rb v room l xn hK.hr
        unfold fI at hfi
        rw [hf] at hfi
        have HFi := Lib.hid hfi
        have HK := Lib.hid hK
        have HO7 := Lib.hid hO7
        have HO8 := Lib.hid hO8
        clear hfi hK hO hO7 hO8
        obtain ⟨g5, cap5, pad5, hv5, -, -, -, -⟩ := own_obs HK.out.hr.hown (by omega)
        obtain ⟨g6, off6, hA6, -, hcell6⟩ := ent_cells (by have := Rd.of_own (A := some ⟨g5, 0, none⟩) (c := cap5) (by rw [← hv5]; exact HK.out.hr.hown); exact this) hil hli
        injection hA6 with hA6
        injection hA6 with hg6 ho6 _
        subst hg6 ho6
        subst hv5
        have a1 : V.cell? ⟨g5, i * 5 + 1, none⟩ = some (.string yo) := by have := hcell6 1 (by omega); simpa [entC] using this
        have a2 : V.cell? ⟨g5, i * 5 + 2, none⟩ = some (.int .i64 yq) := by have := hcell6 2 (by omega); simpa [entC] using this
        have a3 : V.cell? ⟨g5, i * 5 + 3, none⟩ = some (.int .i64 yp) := by have := hcell6 3 (by omega); simpa [entC] using this
        have a4 : V.cell? ⟨g5, i * 5 + 4, none⟩ = some (.bool yb) := by have := hcell6 4 (by omega); simpa [entC] using this
        have hcr := HK.out.hr.ho.cell
        have hi0 : (0 : Int) ≤ (i : Int) := by omega
        have hil2 : (i : Int) < (l.length : Int) := by omega
        have hg8 : g5 < V.heap.size := blk_of_cell a1
        have HKl := Lib.hid hil
        clear hcell6 hli hlk1
        go_upto_region 26 with (go_at_call 21; refine HFi.out.mono ?_; rintro e w' ⟨rfl, rfl⟩)
        obtain ⟨q1, q2, q3, q4, q5, q6⟩ := Hlt.out
        have hM : Mods (fun k => k = N8) V ((((V.setCell ⟨N8, 0, none⟩ (.string yo)).setCell ⟨N8, 1, none⟩ (.int .i64 yq)).setCell ⟨N8, 2, none⟩ (.int .i64 yp)).setCell ⟨N8, 3, none⟩ (.bool yb)) :=
          ((((Mods.refl (fun k => k = N8) V).setCell (⟨N8, 0, none⟩ : Addr) (.inl rfl) _).setCell (⟨N8, 1, none⟩ : Addr) (.inl rfl) _).setCell (⟨N8, 2, none⟩ : Addr) (.inl rfl) _).setCell (⟨N8, 3, none⟩ : Addr) (.inl rfl) _
        refine cutW (fun U => SPl w U b g rb (.slice (some ⟨g5, 0, none⟩) l.length cap5) room l ∧ Ob U N7 34 [.string yo, .int .i64 yq, .int .i64 yp, .bool yb] ∧ Ob U N8 39 [.string yo, .int .i64 yq, .int .i64 yp, .bool yb]) ⟨HK.out.mods hM q1 q2 q3 q4 q6, HO7.out.mods hM (by omega), (((Ob.set HO8.out 0 (.string yo)).set 1 (.int .i64 yq)).set 2 (.int .i64 yp)).set 3 (.bool yb)⟩ ?_
        clear HK HO7 HO8 hc hc7 hc8 hz8 hl8 HFi hVs Hlt hM q1 q2 q3 q4 q5 q6 a1 a2 a3 a4 hcr hg8 HKl hil hil2
        rintro U ⟨hK, hO7, hO8⟩
        have hc7 := hO7.cell
        have hc8 := hO8.cell
        have HK := Lib.hid hK
        clear hK hO7 hO8
        have hcr := HK.out.hr.ho.cell
        have hlen0 := HK.out.hs.hl
        have hsc : ∀ j, Calls Try.prog 22 #[.pointer (some ⟨b, 0, none⟩)] (U.drewN j) fun e w' => e = .returned (.int .i64 (l.length : Int)) ∧ ∃ q, w' = U.drewN q := fun j => (sCount_any _ b g room l (HK.out.hs.drewN j)).mono fun e w' ⟨he, hw⟩ => ⟨he, j, hw.symm⟩
        have Hsc := Lib.hid hsc
        clear hsc
        go_quiet ((go_at_call 22; exact Hsc.out _))
        go_wp2_with fail
        go_roundw
        case rel => exact ⟨k + 1, _, _, by omega, by go_num, HK.out.below (Below.drewN (Below.refl _ _) _)⟩
        case measure => simp [intOf]; omega
    · have hkn : k = n := by omega
      go_wp2_with fail
      go_ret
      exact ⟨rfl, HK.out.hb⟩

end Go.Proofs.Yteggpdhkpmkldaa
