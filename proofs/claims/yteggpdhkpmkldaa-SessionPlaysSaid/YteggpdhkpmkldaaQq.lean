import Derived.Test.YteggpdhkpmkldaaQp
namespace Go.Proofs.Yteggpdhkpmkldaa
open Go.RowKit

theorem guard85 : Try.prog.eqGuardType Try.prog.depth 85 = false := by kernel_rfl
theorem room_cases (room : Int) : (room < 1 ∨ 1024 < room) ∨ ∃ n : Nat, room = n ∧ 1 ≤ n ∧ n ≤ 1024 := by
  by_cases h : room < 1 ∨ 1024 < room
  · exact .inl h
  · exact .inr ⟨room.toNat, by omega, by omega, by omega⟩

set_option maxHeartbeats 16000000 in
set_option maxRecDepth 100000 in
theorem sessionRows_walk (w : World) (room : Int) (A : Option Addr) (n c : Nat) (ops : List XOp) (hr : Rd w A n 9 (ops.flatMap xopCells)) (hl : ops.length = n) :
    Calls Try.prog 10 #[.int .i64 room, .slice A n c] w fun e w' => e = .returned (.bool true) ∧ Below w.heap.size w w' := by
  obtain ⟨i0, hi0, hz0, hz1, hz2⟩ := info_parts info85
  have HI := Lib.hid hi0
  have HZ0 := Lib.hid hz0
  have HZ1 := Lib.hid hz1
  have HZ2 := Lib.hid hz2
  clear hi0 hz0 hz1 hz2
  have h9 := hr.2.1
  have HR := Lib.hid hr
  have HL := Lib.hid hl
  clear hr hl
  go_enter Try.func10, Try.ntmps10
  go_wp2_with fail
  refine (awake37 _).mono ?_
  rintro e w1 ⟨rfl, hb1⟩
  have hs1 := hb1.size
  go_wp2_with fail
  refine (few38 w1 A n c ops (HR.out.below hb1) HL.out).mono ?_
  obtain ⟨fb, hfb⟩ : ∃ fb, fewX ops = fb := ⟨_, rfl⟩
  rw [hfb]
  rintro e w2 ⟨rfl, hb2⟩
  have hB2 := hb1.trans (hb2.mono hs1)
  have HF := Lib.hid hfb
  have HB2 := Lib.hid hB2
  clear hfb hb1 hb2 hB2
  cases fb with
  | false =>
    go_wp2_with fail
    go_ret
    exact ⟨rfl, HB2.out⟩
  | true =>
  have hn : n ≤ 100 := by
    have hf := HF.out
    unfold fewX at hf
    simp only [Bool.and_eq_true, decide_eq_true_eq] at hf
    have := HL.out
    omega
  rcases room_cases room with hbad | ⟨R, rfl, hR1, hR2⟩
  · go_wp2_with fail
    refine (seNew_no _ _ hbad).mono ?_
    rintro e w' ⟨rfl, rfl⟩
    clear hbad
    go_wp2_with fail
    go_ret
    exact ⟨rfl, HB2.out⟩
  go_wp2_with fail
  refine (seNew_yes _ R hR1 hR2).mono ?_
  rintro e w3 ⟨sb, rb, g, rfl, hS, hO, q1, q2, q3, q4, q5, hb3⟩
  have hB3 := HB2.out.trans (hb3.mono HB2.out.size)
  have hK0 : SRw w w3 sb rb g R (.slice none 0 0) [] 0 0 0 := ⟨⟨0, _, false, ⟨hS, hO, by omega, by omega⟩⟩, own_nil _ _ _ _, hB3, by simp, by simp, by simp, by have := HB2.out.size; omega, by have := HB2.out.size; omega, by have := HB2.out.size; omega, q4, q5⟩
  have HK0 := Lib.hid hK0
  clear hS hO q1 q2 q3 q4 q5 hb3 hB3 hK0 HB2
  go_wp2_with fail
  go_loopw [7, 8, 9, 32] (fun sv ov tv i wx => ∃ (k : Nat) (v : Value) (I : List Od) (out tk : Nat), k ≤ n ∧ i = .int .i64 k ∧ sv = v ∧ ov = .int .i64 out ∧ tv = .int .i64 tk ∧ SRw w wx sb rb g R v I out tk k) (fun _ _ _ i _ => n - (intOf i).toNat)
  case atStart => exact ⟨0, _, _, 0, 0, by omega, rfl, rfl, rfl, rfl, HK0.out⟩
  case round =>
    clear HK0
    obtain ⟨k, v, I, out, tk, hk, rfl, rfl, rfl, rfl, hK⟩ := hrel
    obtain ⟨As, cs, rfl, -, hcs1, hcs2⟩ := own_shape hK.hown
    have HK := Lib.hid hK
    clear hK
    by_cases hlt : k < n
    · obtain ⟨x, hx⟩ : ∃ x, ops[k]? = some x := ⟨_, List.getElem?_eq_getElem (by have := HL.out; omega)⟩
      obtain ⟨ga, off, hA, hbl, hcell⟩ := xop_cells HR.out hlt hx
      subst hA
      obtain ⟨xk, xn, ok, os, oi, oy, od, oq, op⟩ := x
      have a : ∀ j, j < 9 → wr.cell? ⟨ga, off + k * 9 + j, none⟩ = [Value.int .i64 xk, .int .i64 xn, .int .i64 ok, .int .i64 os, .string oi, .string oy, .int .i64 od, .int .i64 oq, .int .i64 op][j]? := fun j hj => (HK.out.hb.cell (p := ⟨ga, off + k * 9 + j, none⟩) hbl).trans (hcell j hj)
      have a0 : wr.cell? ⟨ga, off + k * 9, none⟩ = some (.int .i64 xk) := a 0 (by omega)
      have a1 : _ = some _ := a 1 (by omega)
      have a2 : _ = some _ := a 2 (by omega)
      have a3 : _ = some _ := a 3 (by omega)
      have a4 : _ = some _ := a 4 (by omega)
      have a5 : _ = some _ := a 5 (by omega)
      have a6 : _ = some _ := a 6 (by omega)
      have a7 : _ = some _ := a 7 (by omega)
      have a8 : _ = some _ := a 8 (by omega)
      clear hcell a hx
      go_upto_region 13 with (fail)
      have hO := Ob.new wr 87 [.int .i64 xk, .int .i64 xn, .int .i64 ok, .int .i64 os, .string oi, .string oy, .int .i64 od, .int .i64 oq, .int .i64 op]
      refine cutW (fun W => Ob W wr.heap.size 87 [.int .i64 xk, .int .i64 xn, .int .i64 ok, .int .i64 os, .string oi, .string oy, .int .i64 od, .int .i64 oq, .int .i64 op] ∧ SRw w W sb rb g R (.slice As I.length cs) I out tk k ∧ Below wr.heap.size wr W) ⟨hO, HK.out.below Below.alloc_set, Below.alloc_set⟩ ?_
      have hsbN := HK.out.sbl
      have hown0 : Hid (wr.ownsRow (sb + 1) 85 7 (.slice As I.length cs) I.length (I.flatMap Od.cells)) := Lib.hid HK.out.hown
      have hl1 := HK.out.l1
      have hl2 := HK.out.l2
      have hIk := HK.out.hi
      have hout := HK.out.ho
      have htk := HK.out.ht
      clear hO a0 a1 a2 a3 a4 a5 a6 a7 a8
      generalize hN : wr.heap.size = N at *
      rintro W ⟨hO, hK, hbW⟩
      have hc := hO.cell
      have hz := hO.frozen
      have hlN := hO.lt
      have HW := Lib.hid hK
      have HO := Lib.hid hO
      have HbW := Lib.hid hbW
      have HN := Lib.hid hN
      clear hO hK hbW hN
      obtain ⟨first, arr, down, hss⟩ := HW.out.hs
      have HSS := Lib.hid hss
      clear hss
      by_cases k1 : xk = 1
      · subst k1
        have hsd := seSend W sb rb g R first (I.drop out) arr I.length tk 0 down HSS.out (by omega) (by omega) ⟨ok, os, oi, oy, od, oq, op⟩
        have hsd : Calls Try.prog 40 #[.pointer (some ⟨sb, 0, none⟩), .agg #[.int .i64 ok, .int .i64 os, .string oi, .string oy, .int .i64 od, .int .i64 oq, .int .i64 op]] W fun e w' => SendP W sb rb g R first (I.drop out) arr I.length tk 0 down ⟨ok, os, oi, oy, od, oq, op⟩ e w' := hsd
        have HSd := Lib.hid hsd
        clear hsd
        go_wp2_with fail
        refine HSd.out.mono ?_
        clear HSd
        rintro e w4 (⟨rfl, -, h4, hb4⟩ | ⟨rfl, -, -, h4, hb4⟩ | ⟨rfl, -, -, -, h4, hb4⟩ | ⟨rfl, -, -, -, arr', h4, hm4⟩)
        iterate 3
          · have HK5 := Lib.hid (HW.out.below hb4)
            clear h4 hb4
            go_wp2_with fail
            go_roundw
            case rel => exact ⟨k + 1, _, _, _, _, by omega, by go_num, rfl, rfl, rfl, HK5.out.hi1⟩
            case measure => simp [intOf]; omega
        · have hwl : IntKind.i64.wrap ((I.length : Int) + 1) = (I.length : Int) + 1 := by rw [IntWalk.i64_in _ (by omega)]
          have hO4 := HO.out.mods hm4 (by omega)
          have hc4 := hO4.cell
          have hz4 := hO4.frozen
          have hl4 := hO4.lt
          have H4 := Lib.hid h4
          have HM4 := Lib.hid hm4
          have HO4 := Lib.hid hO4
          have Hn3 : Hid (I.length + 1 ≤ 1000000) := by show _ ≤ _; omega
          clear h4 hm4 hO4 hc
          go_upto_region 18 with (fail)
          have hO5 := HO4.out.set 3 (.int .i64 ((I.length : Int) + 1))
          have hM5 : Mods (fun i => i = sb ∨ i = rb ∨ i = g ∨ i = N) wr (w4.setCell ⟨N, 3, none⟩ (.int .i64 ((I.length : Int) + 1))) := ((Below.mods_ (by rw [HN.out]; exact HbW.out) _).trans (HM4.out.mono (fun i _ hi => by omega))).setCell (⟨N, 3, none⟩ : Addr) (.inl (by simp)) _
          have hs5 := H4.out.mods ((Mods.refl (fun i => i = N) w4).setCell (⟨N, 3, none⟩ : Addr) (.inl rfl) (.int .i64 ((I.length : Int) + 1))) (by omega) (by omega) (by omega)
          refine cutW (fun V => Ob V N 87 [.int .i64 1, .int .i64 xn, .int .i64 ok, .int .i64 ((I.length : Int) + 1), .string oi, .string oy, .int .i64 od, .int .i64 oq, .int .i64 op] ∧ Mods (fun i => i = sb ∨ i = rb ∨ i = g ∨ i = N) wr V ∧ SsAt V sb rb g R first (I.drop out ++ [⟨ok, (I.length : Int) + 1, oi, oy, od, oq, op⟩]) arr' ((I.length : Int) + 1) tk 0 down) ⟨hO5, hM5, hs5⟩ ?_
          clear hO5 hM5 hs5 hc4 hz4 hl4 H4 HM4 HO4 HW HbW HO HSS hz hlN
          rintro V ⟨hO, hM, hs⟩
          have hc := hO.cell
          have hsV := hs.hse.ho.lt
          have hown1 := own_mods hown0.out hM (fun q hq hs => by have := own_block hown0.out q hq; have := own_lt hown0.out q hq; have := HN.out; omega)
          have Hown1 := Lib.hid hown1
          have HM := Lib.hid hM
          have HS := Lib.hid hs
          clear hO hM hs hown1
          go_wp2_with (at_builtin; refine append1 rfl (.tmp 52) (.tmp 55) 83 rfl (sb + 1) 85 i0 _ 7 72 Try.underlying83 HI.out HZ0.out HZ1.out HZ2.out rfl (by decide) _ I.length _ rfl (own_mods Hown1.out ((Mods.refl (fun _ => False) _).alloc (.cells #[.int .i64 ok, .int .i64 ((I.length : Int) + 1), .string oi, .string oy, .int .i64 od, .int .i64 oq, .int .i64 op] 85)) (fun _ _ => id)) _ [.int .i64 ok, .int .i64 ((I.length : Int) + 1), .string oi, .string oy, .int .i64 od, .int .i64 oq, .int .i64 op] rfl (Ob.new _ 85 [.int .i64 ok, .int .i64 ((I.length : Int) + 1), .string oi, .string oy, .int .i64 od, .int .i64 oq, .int .i64 op]) rfl (by simp [Value.oneCell']) Hn3.out (by decide) (by simp; omega) (fun v5 w5 hown5 hg5 hat5 => ?_); obtain ⟨A5, c5, rfl, -, -, -⟩ := own_shape hown5)
          have hK5 := SRw.push HK.out ((HM.out).alloc (.cells #[.int .i64 ok, .int .i64 ((I.length : Int) + 1), .string oi, .string oy, .int .i64 od, .int .i64 oq, .int .i64 op] 85)) (fun i hi => by have := HN.out; omega) ⟨first, arr', down, HS.out.below Below.alloc_set⟩ hg5 hown5
          have HK5 := Lib.hid hK5
          clear hown5 hg5 hat5 hK5 HM HS Hown1
          go_wp2_with fail
          go_roundw
          case rel => exact ⟨k + 1, _, I ++ [⟨ok, (I.length : Int) + 1, oi, oy, od, oq, op⟩], _, _, by omega, by go_num, rfl, rfl, rfl, HK5.out⟩
          case measure => simp [intOf]; omega
      by_cases k2 : xk = 2
      · subst k2
        by_cases he : out = I.length
        · have hdr : I.drop out = [] := by rw [he]; simp
          have hpp := sePop_empty W sb rb g R first arr I.length tk 0 down (by have := HSS.out; rwa [hdr] at this)
          have HPp := Lib.hid hpp
          clear hpp hdr he
          go_upto_region 23 with (go_at_call 41; refine HPp.out.mono ?_; rintro e w4 ⟨rfl, hb4⟩)
          have hK5 := (HW.out.below hb4).below (Below.alloc_set (o := .cells #[.int .i64 0, .int .i64 0, .string ⟨#[]⟩, .string ⟨#[]⟩, .int .i64 0, .int .i64 0, .int .i64 0] 85))
          have HK5 := Lib.hid hK5
          clear hb4 hK5 HPp
          go_wp2_with fail
          go_roundw
          case rel => exact ⟨k + 1, _, _, _, _, by omega, by go_num, rfl, rfl, rfl, HK5.out.hi1⟩
          case measure => simp [intOf]; omega
        · have hol : out < I.length := by omega
          obtain ⟨y, hy⟩ : ∃ y, I[out]? = some y := ⟨_, List.getElem?_eq_getElem hol⟩
          have hdr : I.drop out = y :: I.drop (out + 1) := by rw [List.drop_eq_getElem_cons hol]; rw [List.getElem?_eq_getElem hol] at hy; injection hy with hy; rw [hy]
          have hpp := sePop_some W sb rb g R first y (I.drop (out + 1)) arr I.length tk 0 down (by have := HSS.out; rwa [hdr] at this)
          obtain ⟨yk, ys, yi, yy, yd, yq, yp⟩ := y
          have hpp : Calls Try.prog 41 #[.pointer (some ⟨sb, 0, none⟩)] W fun e w' => e = .returned (.tuple #[.agg #[.int .i64 yk, .int .i64 ys, .string yi, .string yy, .int .i64 yd, .int .i64 yq, .int .i64 yp], .int .i64 0]) ∧ ∃ first' arr', SsAt w' sb rb g R first' (I.drop (out + 1)) arr' I.length tk 0 down ∧ Mods (fun k => k = rb ∨ k = g) W w' := hpp
          have HPp := Lib.hid hpp
          have HY := Lib.hid hy
          clear hpp hdr he hy
          go_upto_region 23 with (go_at_call 41; refine HPp.out.mono ?_; rintro e w4 ⟨rfl, f4, a4, h4, hm4⟩)
          have hO4 := Ob.new w4 85 [.int .i64 yk, .int .i64 ys, .string yi, .string yy, .int .i64 yd, .int .i64 yq, .int .i64 yp]
          have h4' := SRw.step HW.out hm4 (fun i hi => .inr hi) (out' := out + 1) (tk' := tk) ⟨f4, a4, down, h4⟩ (by omega) htk
          refine cutW (fun V => SRw w V sb rb g R (.slice As I.length cs) I (out + 1) tk k ∧ Ob V w4.heap.size 85 [.int .i64 yk, .int .i64 ys, .string yi, .string yy, .int .i64 yd, .int .i64 yq, .int .i64 yp]) ⟨h4'.below Below.alloc_set, hO4⟩ ?_
          clear h4 hm4 hO4 h4' HPp HW HbW HO HSS hz hlN hc
          generalize w4.heap.size = N4 at *
          rintro V ⟨hK, hO⟩
          have hc := hO.cell
          obtain ⟨gi, oi2, hAi, hgl, hgc⟩ := (Rd.of_own hK.hown).2.2 (by omega)
          subst hAi
          have hyc : ∀ j, j < 7 → V.cell? ⟨gi, oi2 + out * 7 + j, none⟩ = [Value.int .i64 yk, .int .i64 ys, .string yi, .string yy, .int .i64 yd, .int .i64 yq, .int .i64 yp][j]? := fun j hj => by
            have h1 := flat_at Od.cells 7 (fun _ => rfl) I out j _ HY.out hj
            have hjl : j < [Value.int .i64 yk, .int .i64 ys, .string yi, .string yy, .int .i64 yd, .int .i64 yq, .int .i64 yp].length := hj
            rw [List.getElem?_eq_getElem hjl, Nat.add_assoc]
            exact hgc _ _ (h1.trans (List.getElem?_eq_getElem hjl))
          have y0 : V.cell? ⟨gi, oi2 + out * 7, none⟩ = some (.int .i64 yk) := hyc 0 (by omega)
          have y1 : _ = some _ := hyc 1 (by omega)
          have y2 : _ = some _ := hyc 2 (by omega)
          have y3 : _ = some _ := hyc 3 (by omega)
          have y4 : _ = some _ := hyc 4 (by omega)
          have y5 : _ = some _ := hyc 5 (by omega)
          have y6 : _ = some _ := hyc 6 (by omega)
          have hg85 := guard85
          have hne := neq85_same yk ys yd yq yp yi yy
          have hge : decide ((I.length : Int) ≤ out) = false := by simp; omega
          have hw8 : IntKind.i64.wrap ((out : Int) + 1) = (out : Int) + 1 := by rw [IntWalk.i64_in _ (by omega)]
          have HK5 := Lib.hid hK
          clear hK hO hgc hyc
          go_upto_region 24 with (fail)
          go_quiet (fail)
          go_wp2_with fail
          go_roundw
          case rel => exact ⟨k + 1, _, _, out + 1, _, by omega, by go_num, rfl, by go_num, rfl, (HK5.out.below (Below.drewN (Below.refl _ _) _)).hi1⟩
          case measure => simp [intOf]; omega
      by_cases k3 : xk = 3
      · subst k3
        go_wp2_with fail
        refine (seTake W sb rb _ tk 0 down HSS.out.hse (by omega) (by omega) xn).mono ?_
        unfold eTake
        by_cases t1 : xn ≤ tk
        · rw [if_pos t1]
          rintro e w4 ⟨rfl, h4, hm4⟩
          have HK5 := Lib.hid (HW.out.step hm4 (fun i hi => .inl hi) ⟨first, arr, down, ⟨h4, HSS.out.hro.mods hm4 (Ne.symm HSS.out.n1) (Ne.symm HSS.out.n2), HSS.out.n1, HSS.out.n2⟩⟩ hout htk)
          clear h4 hm4 t1
          go_wp2_with fail
          go_roundw
          case rel => exact ⟨k + 1, _, _, _, _, by omega, by go_num, rfl, rfl, rfl, HK5.out.hi1⟩
          case measure => simp [intOf]; omega
        rw [if_neg t1]
        by_cases t2 : (tk : Int) + 1 < xn
        · rw [if_pos t2]
          rintro e w4 ⟨rfl, h4, hm4⟩
          have HK5 := Lib.hid (HW.out.step hm4 (fun i hi => .inl hi) ⟨first, arr, down, ⟨h4, HSS.out.hro.mods hm4 (Ne.symm HSS.out.n1) (Ne.symm HSS.out.n2), HSS.out.n1, HSS.out.n2⟩⟩ hout htk)
          clear h4 hm4 t1 t2
          go_wp2_with fail
          go_roundw
          case rel => exact ⟨k + 1, _, _, _, _, by omega, by go_num, rfl, rfl, rfl, HK5.out.hi1⟩
          case measure => simp [intOf]; omega
        · rw [if_neg t2]
          obtain rfl : xn = ((tk + 1 : Nat) : Int) := by omega
          rintro e w4 ⟨rfl, h4, hm4⟩
          have hO4 := HO.out.mods hm4 (by omega)
          have hc4 := hO4.cell
          have h4' := SRw.step (k := k + 1) HW.out.hi1 hm4 (fun i hi => .inl hi) (tk' := tk + 1) ⟨first, arr, down, ⟨h4, HSS.out.hro.mods hm4 (Ne.symm HSS.out.n1) (Ne.symm HSS.out.n2), HSS.out.n1, HSS.out.n2⟩⟩ hout (by omega)
          have HK5 := Lib.hid h4'
          clear h4 hm4 t1 t2 hO4 h4' hc
          go_wp2_with fail
          go_roundw
          case rel => exact ⟨k + 1, _, _, _, tk + 1, by omega, by go_num, rfl, rfl, by go_num, HK5.out⟩
          case measure => simp [intOf]; omega
      by_cases k5 : xk = 5
      · subst k5
        go_wp2_with fail
        refine (seDown W sb rb g R first _ arr _ tk 0 down HSS.out).mono ?_
        rintro e w4 ⟨⟨u, rfl⟩, h4, hm4⟩
        have HK5 := Lib.hid (HW.out.step hm4 (fun i hi => .inl hi) ⟨first, arr, true, h4⟩ hout htk)
        clear h4 hm4
        go_wp2_with fail
        go_roundw
        case rel => exact ⟨k + 1, _, _, _, _, by omega, by go_num, rfl, rfl, rfl, HK5.out.hi1⟩
        case measure => simp [intOf]; omega
      by_cases k6 : xk = 6
      · subst k6
        go_wp2_with fail
        refine (seUp W sb rb g R first _ arr _ tk 0 down HSS.out).mono ?_
        rintro e w4 ⟨⟨u, rfl⟩, h4, hm4⟩
        have HK5 := Lib.hid (HW.out.step hm4 (fun i hi => .inl hi) ⟨first, arr, false, h4⟩ hout htk)
        clear h4 hm4
        go_wp2_with fail
        go_roundw
        case rel => exact ⟨k + 1, _, _, _, _, by omega, by go_num, rfl, rfl, rfl, HK5.out.hi1⟩
        case measure => simp [intOf]; omega
      go_wp2_with fail
      go_roundw
      case rel => exact ⟨k + 1, _, _, _, _, by omega, by go_num, rfl, rfl, rfl, HW.out.hi1⟩
      case measure => simp [intOf]; omega
    · obtain ⟨first, arr, down, hss⟩ := HK.out.hs
      have hout := HK.out.ho
      have hxR := hss.hro.hx
      have HSS := Lib.hid hss
      have hW := fun wv => seWaiting wv sb rb g R first (I.drop out) arr I.length tk 0 down
      have hql : (I.drop out).length = I.length - out := by simp
      generalize (I.drop out).length = q at *
      have hIq : I.length = q + out := by omega
      have hwq : IntKind.i64.wrap ((I.length : Int) - out) = (q : Int) := by rw [IntWalk.i64_in _ (by omega)]; omega
      have heq : ((q : Int) == (I.length : Int) - out) = true := by simp; omega
      have hle : decide ((q : Int) ≤ R) = true := by simp; omega
      clear hql hIq
      have HTk := Lib.hid (seTaken wr sb rb g R first _ arr I.length tk 0 down HSS.out)
      go_wp2_with (first
        | (go_at_call 45; refine ((hW wr HSS.out)).mono ?_; rintro e w' ⟨rfl, rfl⟩)
        | (go_at_call 46; refine HTk.out.mono ?_; rintro e w' ⟨rfl, rfl⟩))
      go_ret
      exact ⟨rfl, HK.out.hb⟩

end Go.Proofs.Yteggpdhkpmkldaa
