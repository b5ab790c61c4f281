import Derived.Test.YteggpdhkpmkldaaKf
namespace Go.Proofs.Yteggpdhkpmkldaa
open Go.RowKit

set_option maxHeartbeats 800000 in
set_option maxRecDepth 100000 in
theorem kSettle_more (w : World) (b gp gh cp s : Nat) (ps : List Purse) (hs : List Hold) (n m q v : Int) (h : BkAt w b gp gh cp ps hs) (hx : hs[s]? = some (true, q, m)) (hv : (if 4611686018427387904 < n then 4611686018427387904 else n) = v) (hn : 0 ≤ n) (hl : m < n) :
    Calls Try.prog 27 #[.pointer (some ⟨b, 0, none⟩), .int .i64 s, .int .i64 n] w fun e w' => e = .returned (.int .i64 2) ∧ BkAt w' b gp gh cp ps hs ∧ Mods (fun k => k = gp ∨ k = gh) w w' := by
  have hvl : inLim v = true := by
    subst hv
    unfold inLim
    split <;> simp <;> omega
  have hlt : s < hs.length := (List.getElem?_eq_some_iff.1 hx).1
  have HP := Lib.hid h
  have Hx := Lib.hid hx
  have HV := Lib.hid hvl
  clear h hx hvl
  go_enter Try.func27, Try.ntmps27
  go_upto_region 4 with (go_at_call 60; refine (kHeld1_in _ b gp gh cp s ps hs v _ HP.out Hx.out HV.out).mono ?_; rintro e w' ⟨rfl, k, rfl⟩)
  refine cutW (fun W => BkAt W b gp gh cp ps hs ∧ Mods (fun k => k = gp ∨ k = gh) w W) ⟨HP.out.drewN _, (Mods.refl _ w).drewN _⟩ ?_
  clear hv
  rintro W ⟨hB, hM⟩
  have hc := hB.ho.cell
  obtain ⟨c0, c1, c2⟩ := hB.hs3 Hx.out
  simp only at c0 c1 c2
  have HB := Lib.hid hB
  clear hB
  go_wp2_with fail
  go_ret
  exact ⟨rfl, HB.out.alloc _, hM.alloc _⟩

set_option maxHeartbeats 1600000 in
set_option maxRecDepth 100000 in
theorem kSettle_ok (w : World) (b gp gh cp a s : Nat) (ps : List Purse) (hs : List Hold) (n m : Int) (p : Purse) (h : BkAt w b gp gh cp ps hs) (hp : ps[a]? = some p) (ho : POk p) (hx : hs[s]? = some (true, (a : Int), m)) (hm : 0 ≤ m ∧ m ≤ p.2.1) (hn : 0 ≤ n) (hl : n ≤ m) :
    Calls Try.prog 27 #[.pointer (some ⟨b, 0, none⟩), .int .i64 s, .int .i64 n] w fun e w' => e = .returned (.int .i64 0) ∧ BkAt w' b gp gh cp (ps.set a (p.1, p.2.1 - m, p.2.2 + n)) (hs.set s hold0) ∧ Mods (fun k => k = gp ∨ k = gh) w w' := by
  obtain ⟨o1, o2, o3, o4, o5⟩ := ho
  obtain ⟨m0, m1⟩ := hm
  have hnl : ¬ 4611686018427387904 < n := by omega
  have hvl : inLim n = true := by unfold inLim; simp; omega
  have hlt : s < hs.length := (List.getElem?_eq_some_iff.1 hx).1
  have ha : a < ps.length := (List.getElem?_eq_some_iff.1 hp).1
  have HP := Lib.hid h
  have Hx := Lib.hid hx
  have Hp := Lib.hid hp
  have HV := Lib.hid hvl
  have hne : gp ≠ gh := h.h3
  have hb1 : b ≠ gp := h.h1
  clear h hx hvl hp
  go_enter Try.func27, Try.ntmps27
  go_upto_region 4 with (go_at_call 60; refine (kHeld1_in _ b gp gh cp s ps hs n _ HP.out Hx.out HV.out).mono ?_; rintro e w' ⟨rfl, k, rfl⟩)
  refine cutW (fun W => BkAt W b gp gh cp ps hs ∧ Mods (fun k => k = gp ∨ k = gh) w W) ⟨HP.out.drewN _, (Mods.refl _ w).drewN _⟩ ?_
  clear hnl
  rintro W ⟨hB, hM⟩
  have hc := hB.ho.cell
  obtain ⟨c0, c1, c2⟩ := hB.hs3 Hx.out
  simp only at c0 c1 c2
  have HB := Lib.hid hB
  clear hB
  go_upto_region 5 with (fail)
  generalize hN : W.heap.size = N
  have HN := Lib.hid hN
  refine cutW (fun W' => BkAt W' b gp gh cp ps hs ∧ Mods (fun k => k = gp ∨ k = gh) w W' ∧ Ob W' N 112 [.bool true, .int .i64 a, .int .i64 m] ∧ N ≠ b ∧ N ≠ gp ∧ N ≠ gh) ⟨HB.out.alloc _, hM.alloc _, by subst hN; exact Ob.new W 112 _, ?_, ?_, ?_⟩ ?_
  · have := HB.out.ho.lt; omega
  · obtain ⟨pad, hpd⟩ := HB.out.hp; have := hpd.lt; omega
  · have := HB.out.hh.lt; omega
  clear hc c0 c1 c2 HB hM hN HN
  rintro W1 ⟨hB, hM, hO, n1, n2, n3⟩
  have hc := hB.ho.cell
  have hoc := hO.cell
  obtain ⟨d0, d1, d2⟩ := hB.ps3 Hp.out
  have hz := hB.pfroz
  have HB := Lib.hid hB
  clear hB
  go_upto_region 7 with (fail)
  go_quiet (fail)
  go_upto_region 8 with (fail)
  refine cutW (fun W' => BkAt W' b gp gh cp ps hs ∧ Mods (fun k => k = gp ∨ k = gh) w W' ∧ Ob W' N 112 [.bool true, .int .i64 a, .int .i64 m]) ⟨HB.out.drewN _, hM.drewN _, hO.drewN _⟩ ?_
  clear hc hoc d0 d1 d2 hz HB hM hO
  rintro W2 ⟨hB, hM, hO⟩
  have hoc := hO.cell
  obtain ⟨d0, d1, d2⟩ := hB.ps3 Hp.out
  have hz := hB.pfroz
  have HB := Lib.hid hB
  clear hB
  have hw2 : IntKind.i64.wrap (p.2.1 - m) = p.2.1 - m := by rw [IntWalk.i64_in _ (by omega)]
  refine wp_region_tail 9 (by kernel_rfl) (by kernel_rfl) ?_
  simp only [List.take_succ_cons, List.take_zero, List.drop_succ_cons, List.drop_zero]
  repeat (go_big_quiet_step (fail))
  refine wpQuiet_nil ?_
  go_upto_region 9 with (fail)
  refine cutW (fun W' => BkAt W' b gp gh cp (ps.set a (p.1, p.2.1 - m, p.2.2)) hs ∧ Mods (fun k => k = gp ∨ k = gh) w W') ⟨(HB.out.drewN 1).setP (j := 1) Hp.out (by omega) rfl, (hM.drewN 1).setCell (⟨gp, a * 3 + 1, none⟩ : Addr) (.inl (.inl rfl)) _⟩ ?_
  clear hoc d0 d1 d2 hz HB hM hw2 hO
  rintro W3 ⟨hB, hM⟩
  obtain ⟨d0, d1, d2⟩ := hB.ps3 (get_set_self Hp.out)
  simp only at d0 d1 d2
  have hz := hB.pfroz
  have HB := Lib.hid hB
  clear hB
  have hw3 : IntKind.i64.wrap (p.2.2 + n) = p.2.2 + n := by rw [IntWalk.i64_in _ (by omega)]
  go_upto_region 10 with (fail)
  refine cutW (fun W' => BkAt W' b gp gh cp (ps.set a (p.1, p.2.1 - m, p.2.2 + n)) hs ∧ Mods (fun k => k = gp ∨ k = gh) w W') ⟨?_, hM.setCell (⟨gp, a * 3 + 2, none⟩ : Addr) (.inl (.inl rfl)) _⟩ ?_
  · have := HB.out.setP (j := 2) (y := (p.1, p.2.1 - m, p.2.2 + n)) (v := .int .i64 (p.2.2 + n)) (get_set_self Hp.out) (by omega) rfl
    rw [List.set_set] at this
    exact this
  clear d0 d1 d2 hz HB hM hw3
  rintro W4 ⟨hB, hM⟩
  have hc := hB.ho.cell
  obtain ⟨c0, c1, c2⟩ := hB.hs3 Hx.out
  simp only at c0 c1 c2
  have hz := hB.hh.frozen
  have HB := Lib.hid hB
  clear hB
  go_wp2_with fail
  go_ret
  exact ⟨rfl, HB.out.setH Hx.out, ((hM.setCell (⟨gh, s * 3, none⟩ : Addr) (.inl (.inr rfl)) _).setCell (⟨gh, s * 3 + 1, none⟩ : Addr) (.inl (.inr rfl)) _).setCell (⟨gh, s * 3 + 2, none⟩ : Addr) (.inl (.inr rfl)) _⟩

set_option maxHeartbeats 800000 in
theorem kUndo_arg (w : World) (b gp gh cp : Nat) (ps : List Purse) (hs : List Hold) (a n : Int) (h : BkAt w b gp gh cp ps hs) (hbad : inB ps.length a = false) :
    Calls Try.prog 34 #[.pointer (some ⟨b, 0, none⟩), .int .i64 a, .int .i64 n] w fun e w' => e = .returned (.int .i64 2) ∧ ∃ k, w' = w.drewN k := by
  have HP := Lib.hid h
  have H1 := Lib.hid hbad
  clear h hbad
  go_enter Try.func34, Try.ntmps34
  go_wp2_with (first | (go_at_call 56; refine (HP.out.is_ 0).mono ?_; rintro e w' ⟨rfl, rfl⟩) | (go_at_call 57; refine (HP.out.account_ a false H1.out 0).mono ?_; rintro e w' ⟨rfl, k, rfl⟩))
  go_ret
  exact ⟨rfl, _, rfl⟩
set_option maxHeartbeats 800000 in
theorem kUndo_much (w : World) (b gp gh cp a : Nat) (ps : List Purse) (hs : List Hold) (n : Int) (p : Purse) (h : BkAt w b gp gh cp ps hs) (hp : ps[a]? = some p) (hn : (decide (0 ≤ n) && decide (n ≤ p.2.2)) = false) :
    Calls Try.prog 34 #[.pointer (some ⟨b, 0, none⟩), .int .i64 a, .int .i64 n] w fun e w' => e = .returned (.int .i64 2) ∧ ∃ k, w' = w.drewN k := by
  have ha : a < ps.length := (List.getElem?_eq_some_iff.1 hp).1
  have HP := Lib.hid h
  have H1 := Lib.hid (inB_lt ha)
  have H3 := Lib.hid hn
  have hc := h.ho.cell
  obtain ⟨d0, d1, d2⟩ := h.ps3 hp
  clear h hn hp
  go_enter Try.func34, Try.ntmps34
  go_wp2_with (first | (go_at_call 56; refine (HP.out.is_ 0).mono ?_; rintro e w' ⟨rfl, rfl⟩) | (go_at_call 57; refine (HP.out.account_ a true H1.out 0).mono ?_; rintro e w' ⟨rfl, k, rfl⟩) | (go_at_call 55; refine (kWithin _ _ _ _).mono ?_; rintro e w' ⟨rfl, rfl⟩; rw [H3.out]))
  go_ret
  exact ⟨rfl, _, rfl⟩
set_option maxHeartbeats 800000 in
set_option maxRecDepth 100000 in
theorem kUndo_ok (w : World) (b gp gh cp a : Nat) (ps : List Purse) (hs : List Hold) (n : Int) (p : Purse) (h : BkAt w b gp gh cp ps hs) (hp : ps[a]? = some p) (ho : POk p) (hn : (decide (0 ≤ n) && decide (n ≤ p.2.2)) = true) :
    Calls Try.prog 34 #[.pointer (some ⟨b, 0, none⟩), .int .i64 a, .int .i64 n] w fun e w' => e = .returned (.int .i64 0) ∧ BkAt w' b gp gh cp (ps.set a (p.1, p.2.1, p.2.2 - n)) hs ∧ Mods (fun k => k = gp ∨ k = gh) w w' := by
  have ha : a < ps.length := (List.getElem?_eq_some_iff.1 hp).1
  obtain ⟨o1, o2, o3, o4, o5⟩ := ho
  have hn0 : 0 ≤ n := by simp at hn; omega
  have hn1 : n ≤ p.2.2 := by simp at hn; omega
  have HP := Lib.hid h
  have H1 := Lib.hid (inB_lt ha)
  have H3 := Lib.hid hn
  have Hp := Lib.hid hp
  have hc := h.ho.cell
  obtain ⟨d0, d1, d2⟩ := h.ps3 hp
  clear h hn hp
  go_enter Try.func34, Try.ntmps34
  go_upto_region 5 with (first | (go_at_call 56; refine (HP.out.is_ 0).mono ?_; rintro e w' ⟨rfl, rfl⟩) | (go_at_call 57; refine (HP.out.account_ a true H1.out 0).mono ?_; rintro e w' ⟨rfl, k, rfl⟩) | (go_at_call 55; refine (kWithin _ _ _ _).mono ?_; rintro e w' ⟨rfl, rfl⟩; rw [H3.out]))
  refine cutW (fun W => BkAt W b gp gh cp ps hs ∧ Mods (fun k => k = gp ∨ k = gh) w W) ⟨HP.out.drewN _, (Mods.refl _ w).drewN _⟩ ?_
  clear hc d0 d1 d2
  rintro W ⟨hB, hM⟩
  have hc := hB.ho.cell
  obtain ⟨d0, d1, d2⟩ := hB.ps3 Hp.out
  have hz := hB.pfroz
  have HB := Lib.hid hB
  clear hB
  have hw3 : IntKind.i64.wrap (p.2.2 - n) = p.2.2 - n := by rw [IntWalk.i64_in _ (by omega)]
  go_wp2_with fail
  go_ret
  exact ⟨rfl, HB.out.setP (j := 2) Hp.out (by omega) rfl, hM.setCell (⟨gp, a * 3 + 2, none⟩ : Addr) (.inl (.inl rfl)) _⟩

end Go.Proofs.Yteggpdhkpmkldaa
