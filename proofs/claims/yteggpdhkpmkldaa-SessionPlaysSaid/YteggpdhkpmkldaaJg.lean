import Derived.Test.YteggpdhkpmkldaaJf
namespace Go.Proofs.Yteggpdhkpmkldaa
open Go.RowKit Go.Maps

/-- SeenKeeps' loop. -/
structure SKp (w W : World) (b g b0 : Nat) (room : Int) (l : Sl) (nm : ByteArray) (x : Ex) (kd : Int) : Prop where
  hs : SnAt W b g room l
  ho : Ob W b0 36 [.int .i64 kd, .string nm, .string x.od, .int .i64 x.q, .int .i64 x.p, .bool x.bu]
  hb : Below w.heap.size w W
  bb : w.heap.size ≤ b
  bg : w.heap.size ≤ g
  n1 : b0 ≠ g
  hl : look l nm = some x
theorem SKp.below {w W W' : World} {b g b0 : Nat} {room : Int} {l : Sl} {nm : ByteArray} {x : Ex} {kd : Int} (h : SKp w W b g b0 room l nm x kd) (hb : Below W.heap.size W W') : SKp w W' b g b0 room l nm x kd :=
  ⟨h.hs.below hb, h.ho.below hb h.ho.lt, h.hb.trans (hb.mono h.hb.size), h.bb, h.bg, h.n1, h.hl⟩
theorem SKp.step {w W W' : World} {b g b0 : Nat} {room : Int} {l l' : Sl} {nm : ByteArray} {x : Ex} {kd : Int} (h : SKp w W b g b0 room l nm x kd) (hs : SnAt W' b g room l') (hm : Mods (fun k => k = g) W W') (hl : look l' nm = some x) : SKp w W' b g b0 room l' nm x kd :=
  ⟨hs, h.ho.mods hm h.n1, Below.mods h.hb hm (fun k hk => by have := h.bg; omega) h.hb.size, h.bb, h.bg, h.n1, hl⟩
theorem look_sPut {room : Int} {l : Sl} {nm k : ByteArray} {x : Ex} (h : k ≠ nm) (y : Ex) (hl : look l nm = some x) : look (sPut room l k y).2 nm = some x := by
  unfold sPut
  split
  · split
    · exact hl
    · split
      · exact hl
      · rw [look_put_other _ _ _ _ (Ne.symm h)]; exact hl
  · exact hl
theorem look_sBust {l : Sl} {nm k : ByteArray} {x : Ex} (h : k ≠ nm) (hl : look l nm = some x) : look (sBust l k).2 nm = some x := by
  unfold sBust
  split
  · exact hl
  · split
    · exact hl
    · rw [look_put_other _ _ _ _ (Ne.symm h)]; exact hl

theorem toList_inj {a b : ByteArray} (h : a.toList = b.toList) : a = b := by
  rw [ByteArray.toList_eq, ByteArray.toList_eq] at h
  have : a.data = b.data := Array.toList_inj.1 h
  cases a; cases b; simp_all

set_option maxHeartbeats 8000000 in
set_option maxRecDepth 100000 in
theorem seenKeeps_in (w : World) (room : Int) (kd : Int) (nm : ByteArray) (od : ByteArray) (q p : Int) (bu : Bool) (A : Option Addr) (n c : Nat) (ops : List SOp) (hr : Rd w A n 6 (ops.flatMap sopCells)) (hl : ops.length = n)
    (hf : fewB ops = true) (r1 : 1 ≤ room) (r2 : room ≤ 4096) (hnm : nm.size ≤ 200) :
    Calls Try.prog 5 #[.int .i64 room, .agg #[.int .i64 kd, .string nm, .string od, .int .i64 q, .int .i64 p, .bool bu], .slice A n c] w fun e w' => e = .returned (.bool true) ∧ Below w.heap.size w w' := by
  have hO := Ob.new w 36 [.int .i64 kd, .string nm, .string od, .int .i64 q, .int .i64 p, .bool bu]
  have hB0 : Below w.heap.size w (w.alloc (.cells #[.int .i64 kd, .string nm, .string od, .int .i64 q, .int .i64 p, .bool bu] 36)) := Below.alloc_set
  have h9 := hr.2.1
  have HR := Lib.hid hr
  have HL := Lib.hid hl
  have HF := Lib.hid hf
  clear hr hl hf
  go_enter Try.func5, Try.ntmps5
  go_upto_region 1 with (fail)
  refine cutW (fun W => Ob W w.heap.size 36 [.int .i64 kd, .string nm, .string od, .int .i64 q, .int .i64 p, .bool bu] ∧ Below w.heap.size w W) ⟨hO, hB0⟩ ?_
  clear hO hB0
  rintro W0 ⟨hO, hB⟩
  go_wp2_with fail
  refine (awake13 _).mono ?_
  rintro e w1 ⟨rfl, hb1⟩
  have hO1 := hO.below hb1 hO.lt
  have hB1 := hB.trans (hb1.mono hB.size)
  clear hO hB hb1
  go_wp2_with fail
  refine (few14 w1 A n c ops (HR.out.below hB1) HL.out).mono ?_
  rw [HF.out]
  rintro e w2 ⟨rfl, hb2⟩
  have hO2 := hO1.below hb2 hO1.lt
  have hB2 := hB1.trans (hb2.mono hB1.size)
  have hc2 := hO2.cell
  have hbl2 := hO2.lt
  have HO2 := Lib.hid hO2
  have HB2 := Lib.hid hB2
  clear hO1 hB1 hb2 hO2 hB2
  go_wp2_with fail
  refine (sNew_any _ _).mono ?_
  rintro e w3 (⟨-, hf, -⟩ | ⟨-, -, b, g, rfl, hS, hb, hg, hb3⟩)
  · omega
  have hO3 := HO2.out.below hb3 HO2.out.lt
  have hB3 := HB2.out.trans (hb3.mono HB2.out.size)
  have hbw : w.heap.size ≤ b := Nat.le_trans HB2.out.size hb
  have hgw : w.heap.size ≤ g := Nat.le_trans HB2.out.size hg
  have hz3 := hO3.frozen
  have hl3 := hO3.lt
  have hc3 := hO3.cell
  have HS := Lib.hid hS
  have HO3 := Lib.hid hO3
  have HB3 := Lib.hid hB3
  have hne0 : w.heap.size ≠ g := by omega
  have hne1 : w.heap.size ≠ b := by omega
  clear hc2 hb3 HO2 HB2 hS hO3 hB3
  go_upto_region 9 with (fail)
  refine cutW (fun W => SnAt W b g room [] ∧ Ob W w.heap.size 36 [.int .i64 kd, .string nm, .string od, .int .i64 q, .int .i64 p, .bool false] ∧ Below w.heap.size w W) ⟨HS.out.set _ 5 _ (Ne.symm hne1) (Ne.symm hne0), Ob.set HO3.out 5 (.bool false), HB3.out.setCell (by simp) _⟩ ?_
  clear hz3 hc3 HS HO3 HB3 hl3
  rintro W4 ⟨hS, hO, hB⟩
  have hc := hO.cell
  have HS := Lib.hid hS
  have HO := Lib.hid hO
  have HB := Lib.hid hB
  clear hS hO hB
  go_wp2_with fail
  refine (sPut_any W4 b g room _ HS.out nm (by unfold maxLen; omega) ⟨od, q, p, false⟩).mono ?_
  obtain ⟨nb, hnb⟩ : ∃ nb, nameB nm = nb := ⟨_, rfl⟩
  cases nb with
  | false =>
    have hP : sPut room [] nm ⟨od, q, p, false⟩ = (43, []) := if_neg (by rw [hnb]; decide)
    rw [hP]
    rintro e w5 ⟨rfl, hS5, hM⟩
    have hB5 : Below w.heap.size w w5 := Below.mods HB.out hM (fun k hk => by omega) HB.out.size
    clear hP hM hc
    go_wp2_with (go_at_call 22; refine (sCount_any w5 b g room [] hS5).mono ?_; rintro e w' ⟨rfl, rfl⟩)
    go_ret
    exact ⟨rfl, hB5⟩
  | true =>
  have hP : sPut room [] nm ⟨od, q, p, false⟩ = (0, [(nm, ⟨od, q, p, false⟩)]) := by
    unfold sPut
    rw [if_pos hnb, if_neg (by simp [look]), if_neg (by simp; omega)]
    rfl
  rw [hP]
  rintro e w5 ⟨rfl, hS5, hM⟩
  have HK0 : Hid (SKp w w5 b g w.heap.size room [(nm, ⟨od, q, p, false⟩)] nm ⟨od, q, p, false⟩ kd) := Lib.hid ⟨hS5, HO.out.mods hM hne0, Below.mods HB.out hM (fun k hk => by omega) HB.out.size, hbw, hgw, hne0, by simp [look]⟩
  have Hnb := Lib.hid hnb
  clear hP hM hc HS HO HB hS5 hnb
  go_wp2_with fail
  go_loopw [55] (fun i wx => ∃ (k : Nat) (l : Sl), k ≤ n ∧ i = .int .i64 k ∧ SKp w wx b g w.heap.size room l nm ⟨od, q, p, false⟩ kd) (fun i _ => n - (intOf i).toNat)
  case atStart => exact ⟨0, _, by omega, rfl, HK0.out⟩
  case round =>
    clear HK0
    obtain ⟨k, l, hk, rfl, hK⟩ := hrel
    have HK := Lib.hid hK
    clear hK
    by_cases hlt : k < n
    · obtain ⟨x, hx⟩ : ∃ x, ops[k]? = some x := ⟨_, List.getElem?_eq_getElem (by have := HL.out; omega)⟩
      obtain ⟨ga, off, hA, hbl, hcell⟩ := sop_cells HR.out hlt hx
      subst hA
      have hsz : x.2.1.size ≤ 200 := by
        have hf := HF.out
        unfold fewB at hf
        simp only [Bool.and_eq_true] at hf
        have := List.all_eq_true.1 hf.1 x (List.mem_of_getElem? hx)
        simp [okOp] at this
        exact this.1
      obtain ⟨xk, xn, xo, xq, xp, xb⟩ := x
      simp only at hsz
      have a : ∀ j, j < 6 → wr.cell? ⟨ga, off + k * 6 + j, none⟩ = [Value.int .i64 xk, .string xn, .string xo, .int .i64 xq, .int .i64 xp, .bool xb][j]? := fun j hj => (HK.out.hb.cell (p := ⟨ga, off + k * 6 + j, none⟩) hbl).trans (hcell j hj)
      have a0 : wr.cell? ⟨ga, off + k * 6, none⟩ = some (.int .i64 xk) := a 0 (by omega)
      have a1 : _ = some _ := a 1 (by omega)
      have a2 : _ = some _ := a 2 (by omega)
      have a3 : _ = some _ := a 3 (by omega)
      have a4 : _ = some _ := a 4 (by omega)
      have a5 : _ = some _ := a 5 (by omega)
      clear hcell a hx
      go_upto_region 14 with (fail)
      have hO := Ob.new wr 36 [.int .i64 xk, .string xn, .string xo, .int .i64 xq, .int .i64 xp, .bool xb]
      refine cutW (fun W => Ob W wr.heap.size 36 [.int .i64 xk, .string xn, .string xo, .int .i64 xq, .int .i64 xp, .bool xb] ∧ SKp w W b g w.heap.size room l nm ⟨od, q, p, false⟩ kd) ⟨hO, HK.out.below Below.alloc_set⟩ ?_
      have hgN : g < wr.heap.size := HK.out.hs.hm.lt
      clear hO HK a0 a1 a2 a3 a4 a5
      generalize wr.heap.size = N at *
      rintro W ⟨hO, hK⟩
      have hc := hO.cell
      have hc0 := hK.ho.cell
      have HK := Lib.hid hK
      have HO := Lib.hid hO
      clear hO hK
      by_cases he : xn = nm
      · subst he
        have hP : sPut room l xn ⟨xo, xq, xp, xb⟩ = (41, l) := by
          unfold sPut
          rw [if_pos Hnb.out, if_pos (by rw [HK.out.hl]; rfl)]
        have hcon := sPut_any W b g room l HK.out.hs xn (by unfold maxLen; omega) ⟨xo, xq, xp, xb⟩
        rw [hP] at hcon
        have Hcon := Lib.hid hcon
        clear hP hcon
        go_wp2_with (go_at_call 16; refine Hcon.out.mono ?_; rintro e w6 ⟨rfl, hS6, hM6⟩)
        have HK6 := Lib.hid (HK.out.step hS6 hM6 HK.out.hl)
        clear HK HO hS6 hM6 Hcon hc hc0
        go_roundw
        case rel => exact ⟨k + 1, l, by omega, by go_num, HK6.out⟩
        case measure => simp [intOf]; omega
      · have hne : xn ≠ nm := he
        have heb : (xn.toList == nm.toList) = false := by
          rw [beq_eq_false_iff_ne]
          intro h
          exact he (toList_inj h)
        clear he
        by_cases hk2 : xk = 2
        · subst hk2
          have hl2 : look (sBust l xn).2 nm = some ⟨od, q, p, false⟩ := look_sBust hne HK.out.hl
          have hcon := sBust_any W b g room l HK.out.hs xn (by unfold maxLen; omega)
          generalize hr : sBust l xn = r at *
          obtain ⟨f, l2⟩ := r
          have Hcon := Lib.hid hcon
          have Hl2 := Lib.hid hl2
          clear hcon hl2 hr
          go_upto_region 20 with (go_at_call 18; refine Hcon.out.mono ?_; rintro e w6 ⟨rfl, hS6, hM6⟩)
          refine cutW (fun Y => SKp w Y b g w.heap.size room l2 nm ⟨od, q, p, false⟩ kd) (HK.out.step hS6 hM6 Hl2.out) ?_
          clear HK HO hS6 hM6 Hcon hc hc0 Hl2 w6
          rintro Y hK
          have hlv : lookV l2 nm = ⟨od, q, p, false⟩ := by unfold lookV; rw [hK.hl]; rfl
          have hG := sGet_any Y b g room l2 hK.hs nm (by unfold maxLen; omega)
          rw [hlv, hK.hl] at hG
          have hG : Calls Try.prog 20 #[.pointer (some ⟨b, 0, none⟩), .string nm] Y fun e w' => e = .returned (.tuple #[.agg #[.string od, .int .i64 q, .int .i64 p, .bool false], .bool true]) ∧ Below Y.heap.size Y w' := hG
          have hc := hK.ho.cell
          have HK := Lib.hid hK
          have HG := Lib.hid hG
          clear hK hlv hG
          go_upto_region 21 with (go_at_call 20; refine HG.out.mono ?_; rintro e w7 ⟨rfl, hb7⟩)
          have hO7 := Ob.new w7 34 [.string od, .int .i64 q, .int .i64 p, .bool false]
          refine cutW (fun Z => SKp w Z b g w.heap.size room l2 nm ⟨od, q, p, false⟩ kd ∧ Ob Z w7.heap.size 34 [.string od, .int .i64 q, .int .i64 p, .bool false]) ⟨(HK.out.below hb7).below Below.alloc_set, hO7⟩ ?_
          clear HK HG hb7 hO7 hc
          generalize w7.heap.size = N7 at *
          rintro Z ⟨hK, hO⟩
          have hc := hK.ho.cell
          have hc7 := hO.cell
          have hlen : decide (room < (l2.length : Int)) = false := by have := hK.hs.hl; simp; omega
          have HK := Lib.hid hK
          clear hK hO
          go_wp2_with (go_at_call 22; refine (sCount_any Z b g room l2 HK.out.hs).mono ?_; rintro e w' ⟨rfl, rfl⟩)
          go_roundw
          case rel => exact ⟨k + 1, l2, by omega, by go_num, HK.out⟩
          case measure => simp [intOf]; omega
        · have hk2b : (xk == 2) = false := by simpa using hk2
          have hl2 : look (sPut room l xn ⟨xo, xq, xp, xb⟩).2 nm = some ⟨od, q, p, false⟩ := look_sPut hne _ HK.out.hl
          have hcon := sPut_any W b g room l HK.out.hs xn (by unfold maxLen; omega) ⟨xo, xq, xp, xb⟩
          generalize hr : sPut room l xn ⟨xo, xq, xp, xb⟩ = r at *
          obtain ⟨f, l2⟩ := r
          have Hcon := Lib.hid hcon
          have Hl2 := Lib.hid hl2
          clear hcon hl2 hr
          go_upto_region 20 with (go_at_call 16; refine Hcon.out.mono ?_; rintro e w6 ⟨rfl, hS6, hM6⟩)
          refine cutW (fun Y => SKp w Y b g w.heap.size room l2 nm ⟨od, q, p, false⟩ kd) (HK.out.step hS6 hM6 Hl2.out) ?_
          clear HK HO hS6 hM6 Hcon hc hc0 Hl2 w6
          rintro Y hK
          have hlv : lookV l2 nm = ⟨od, q, p, false⟩ := by unfold lookV; rw [hK.hl]; rfl
          have hG := sGet_any Y b g room l2 hK.hs nm (by unfold maxLen; omega)
          rw [hlv, hK.hl] at hG
          have hG : Calls Try.prog 20 #[.pointer (some ⟨b, 0, none⟩), .string nm] Y fun e w' => e = .returned (.tuple #[.agg #[.string od, .int .i64 q, .int .i64 p, .bool false], .bool true]) ∧ Below Y.heap.size Y w' := hG
          have hc := hK.ho.cell
          have HK := Lib.hid hK
          have HG := Lib.hid hG
          clear hK hlv hG
          go_upto_region 21 with (go_at_call 20; refine HG.out.mono ?_; rintro e w7 ⟨rfl, hb7⟩)
          have hO7 := Ob.new w7 34 [.string od, .int .i64 q, .int .i64 p, .bool false]
          refine cutW (fun Z => SKp w Z b g w.heap.size room l2 nm ⟨od, q, p, false⟩ kd ∧ Ob Z w7.heap.size 34 [.string od, .int .i64 q, .int .i64 p, .bool false]) ⟨(HK.out.below hb7).below Below.alloc_set, hO7⟩ ?_
          clear HK HG hb7 hO7 hc
          generalize w7.heap.size = N7 at *
          rintro Z ⟨hK, hO⟩
          have hc := hK.ho.cell
          have hc7 := hO.cell
          have hlen : decide (room < (l2.length : Int)) = false := by have := hK.hs.hl; simp; omega
          have HK := Lib.hid hK
          clear hK hO
          go_wp2_with (go_at_call 22; refine (sCount_any Z b g room l2 HK.out.hs).mono ?_; rintro e w' ⟨rfl, rfl⟩)
          go_roundw
          case rel => exact ⟨k + 1, l2, by omega, by go_num, HK.out⟩
          case measure => simp [intOf]; omega
    · have hkn : k = n := by omega
      subst hkn
      have hlv : lookV l nm = ⟨od, q, p, false⟩ := by unfold lookV; rw [HK.out.hl]; rfl
      have hG := sGet_any wr b g room l HK.out.hs nm (by unfold maxLen; omega)
      rw [hlv, HK.out.hl] at hG
      have hG : Calls Try.prog 20 #[.pointer (some ⟨b, 0, none⟩), .string nm] wr fun e w' => e = .returned (.tuple #[.agg #[.string od, .int .i64 q, .int .i64 p, .bool false], .bool true]) ∧ Below wr.heap.size wr w' := hG
      have hc := HK.out.ho.cell
      have HG := Lib.hid hG
      clear hlv hG
      go_upto_region 25 with (go_at_call 20; refine HG.out.mono ?_; rintro e w7 ⟨rfl, hb7⟩)
      have hO7 := Ob.new w7 34 [.string od, .int .i64 q, .int .i64 p, .bool false]
      refine cutW (fun Z => SKp w Z b g w.heap.size room l nm ⟨od, q, p, false⟩ kd ∧ Ob Z w7.heap.size 34 [.string od, .int .i64 q, .int .i64 p, .bool false]) ⟨(HK.out.below hb7).below Below.alloc_set, hO7⟩ ?_
      clear HK HG hb7 hO7 hc
      generalize w7.heap.size = N7 at *
      rintro Z ⟨hK, hO⟩
      have hc := hK.ho.cell
      have hc7 := hO.cell
      have hP : sBust l nm = (0, put l nm ⟨od, q, p, true⟩) := by unfold sBust; rw [hK.hl]; rfl
      have hcon := sBust_any Z b g room l hK.hs nm (by unfold maxLen; omega)
      rw [hP] at hcon
      have Hcon := Lib.hid hcon
      have HK := Lib.hid hK
      clear hP hcon hK hO
      go_wp2_with (go_at_call 18; refine Hcon.out.mono ?_; rintro e w8 ⟨rfl, hS8, hM8⟩)
      have hb8 : Below w.heap.size w w8 := Below.mods HK.out.hb hM8 (fun k hk => by omega) HK.out.hb.size
      go_ret
      exact ⟨rfl, hb8⟩

set_option maxHeartbeats 1600000 in
set_option maxRecDepth 100000 in
theorem seenKeeps_out (w : World) (room : Int) (kd : Int) (nm : ByteArray) (od : ByteArray) (q p : Int) (bu : Bool) (A : Option Addr) (n c : Nat) (ops : List SOp) (hr : Rd w A n 6 (ops.flatMap sopCells)) (hl : ops.length = n)
    (h : fewB ops = false ∨ room < 1 ∨ 4096 < room ∨ 200 < nm.size) :
    Calls Try.prog 5 #[.int .i64 room, .agg #[.int .i64 kd, .string nm, .string od, .int .i64 q, .int .i64 p, .bool bu], .slice A n c] w fun e w' => e = .returned (.bool true) ∧ Below w.heap.size w w' := by
  have hO := Ob.new w 36 [.int .i64 kd, .string nm, .string od, .int .i64 q, .int .i64 p, .bool bu]
  have hB0 : Below w.heap.size w (w.alloc (.cells #[.int .i64 kd, .string nm, .string od, .int .i64 q, .int .i64 p, .bool bu] 36)) := Below.alloc_set
  have HR := Lib.hid hr
  have HL := Lib.hid hl
  have H := Lib.hid h
  clear hr hl h
  go_enter Try.func5, Try.ntmps5
  go_upto_region 1 with (fail)
  refine cutW (fun W => Ob W w.heap.size 36 [.int .i64 kd, .string nm, .string od, .int .i64 q, .int .i64 p, .bool bu] ∧ Below w.heap.size w W) ⟨hO, hB0⟩ ?_
  clear hO hB0
  rintro W0 ⟨hO, hB⟩
  go_wp2_with fail
  refine (awake13 _).mono ?_
  rintro e w1 ⟨rfl, hb1⟩
  have hO1 := hO.below hb1 hO.lt
  have hB1 := hB.trans (hb1.mono hB.size)
  clear hO hB hb1
  go_wp2_with fail
  refine (few14 w1 A n c ops (HR.out.below hB1) HL.out).mono ?_
  obtain ⟨fb, hfb⟩ : ∃ fb, fewB ops = fb := ⟨_, rfl⟩
  rw [hfb]
  rintro e w2 ⟨rfl, hb2⟩
  have hO2 := hO1.below hb2 hO1.lt
  have hB2 := hB1.trans (hb2.mono hB1.size)
  have hc2 := hO2.cell
  have HB2 := Lib.hid hB2
  have h := H.out
  rw [hfb] at h
  clear hO1 hB1 hb2 hO2 hB2 H hfb
  cases fb with
  | false =>
    clear h
    go_wp2_with fail
    go_ret
    exact ⟨rfl, HB2.out⟩
  | true =>
  by_cases g1 : room < 1
  · clear h
    go_wp2_with fail
    go_ret
    exact ⟨rfl, HB2.out⟩
  by_cases g2 : 4096 < room
  · clear h
    go_wp2_with fail
    go_ret
    exact ⟨rfl, HB2.out⟩
  have g3 : 200 < nm.size := by
    rcases h with h | h | h | h
    · cases h
    · omega
    · omega
    · exact h
  clear h
  go_wp2_with fail
  go_ret
  exact ⟨rfl, HB2.out⟩

theorem seenKeeps_walk (w : World) (room : Int) (x : SOp) (A : Option Addr) (n c : Nat) (ops : List SOp) (hr : Rd w A n 6 (ops.flatMap sopCells)) (hl : ops.length = n) :
    Calls Try.prog 5 #[.int .i64 room, .agg (sopCells x).toArray, .slice A n c] w fun e w' => e = .returned (.bool true) ∧ Below w.heap.size w w' := by
  obtain ⟨kd, nm, od, q, p, bu⟩ := x
  by_cases h : fewB ops = false ∨ room < 1 ∨ 4096 < room ∨ 200 < nm.size
  · exact seenKeeps_out w room kd nm od q p bu A n c ops hr hl h
  · have hf : fewB ops = true := by
      cases hb : fewB ops with
      | true => rfl
      | false => exact absurd (.inl hb) h
    have h1 : ¬ room < 1 := fun g => h (.inr (.inl g))
    have h2 : ¬ 4096 < room := fun g => h (.inr (.inr (.inl g)))
    have h3 : ¬ 200 < nm.size := fun g => h (.inr (.inr (.inr g)))
    exact seenKeeps_in w room kd nm od q p bu A n c ops hr hl hf (by omega) (by omega) (by omega)

end Go.Proofs.Yteggpdhkpmkldaa
