import Derived.Test.YteggpdhkpmkldaaKe
namespace Go.Proofs.Yteggpdhkpmkldaa
open Go.RowKit

/-- held: 2 where the slot or the amount may not be. -/
theorem kHeld1_arg (w : World) (b gp gh cp : Nat) (ps : List Purse) (hs : List Hold) (s n : Int) (h : BkAt w b gp gh cp ps hs) (hbad : inB hs.length s = false ∨ inLim n = false) :
    Calls Try.prog 60 #[.pointer (some ⟨b, 0, none⟩), .int .i64 s, .int .i64 n] w fun e w' => e = .returned (.int .i64 2) ∧ ∃ k, w' = w.drewN k := by
  have HP := Lib.hid h
  clear h
  cases h2 : inB hs.length s with
  | false =>
    have H2 := Lib.hid h2
    clear hbad h2
    go_enter Try.func60, Try.ntmps60
    go_wp2_with (first | (go_at_call 56; refine (HP.out.is_ 0).mono ?_; rintro e w' ⟨rfl, rfl⟩) | (go_at_call 58; refine (HP.out.slot_ s false H2.out 0).mono ?_; rintro e w' ⟨rfl, k, rfl⟩))
    go_ret
    exact ⟨rfl, _, rfl⟩
  | true =>
    have h3 : (decide (0 ≤ n) && decide (n ≤ 4611686018427387904)) = false := by
      rcases hbad with h | h
      · rw [h2] at h; cases h
      · exact h
    have H2 := Lib.hid h2
    clear hbad h2
    by_cases h4 : n < 0
    · clear h3
      go_enter Try.func60, Try.ntmps60
      go_wp2_with (first | (go_at_call 56; refine (HP.out.is_ 0).mono ?_; rintro e w' ⟨rfl, rfl⟩) | (go_at_call 58; refine (HP.out.slot_ s true H2.out 0).mono ?_; rintro e w' ⟨rfl, k, rfl⟩))
      go_ret
      exact ⟨rfl, _, rfl⟩
    · have h5 : 4611686018427387904 < n := by simp at h3; omega
      clear h3
      go_enter Try.func60, Try.ntmps60
      go_wp2_with (first | (go_at_call 56; refine (HP.out.is_ 0).mono ?_; rintro e w' ⟨rfl, rfl⟩) | (go_at_call 58; refine (HP.out.slot_ s true H2.out 0).mono ?_; rintro e w' ⟨rfl, k, rfl⟩))
      go_ret
      exact ⟨rfl, _, rfl⟩
theorem kHeld1_in (w : World) (b gp gh cp s : Nat) (ps : List Purse) (hs : List Hold) (n : Int) (x : Hold) (h : BkAt w b gp gh cp ps hs) (hx : hs[s]? = some x) (hn : inLim n = true) :
    Calls Try.prog 60 #[.pointer (some ⟨b, 0, none⟩), .int .i64 s, .int .i64 n] w fun e w' => e = .returned (.int .i64 (if x.1 = true then 0 else 42)) ∧ ∃ k, w' = w.drewN k := by
  have hlt : s < hs.length := (List.getElem?_eq_some_iff.1 hx).1
  have HP := Lib.hid h
  have H2 := Lib.hid (inB_lt hlt)
  have h3 : (decide (0 ≤ n) && decide (n ≤ 4611686018427387904)) = true := hn
  have hn0 : 0 ≤ n := by simp at h3; omega
  have hn1 : n ≤ 4611686018427387904 := by simp at h3; omega
  have hc := h.ho.cell
  obtain ⟨c0, c1, c2⟩ := h.hs3 hx
  clear h h3 hn hx
  obtain ⟨t, q, m⟩ := x
  cases t with
  | false =>
    go_enter Try.func60, Try.ntmps60
    go_wp2_with (first | (go_at_call 56; refine (HP.out.is_ 0).mono ?_; rintro e w' ⟨rfl, rfl⟩) | (go_at_call 58; refine (HP.out.slot_ s true H2.out 0).mono ?_; rintro e w' ⟨rfl, k, rfl⟩))
    go_ret
    exact ⟨rfl, _, rfl⟩
  | true =>
    go_enter Try.func60, Try.ntmps60
    go_wp2_with (first | (go_at_call 56; refine (HP.out.is_ 0).mono ?_; rintro e w' ⟨rfl, rfl⟩) | (go_at_call 58; refine (HP.out.slot_ s true H2.out 0).mono ?_; rintro e w' ⟨rfl, k, rfl⟩))
    go_ret
    exact ⟨rfl, _, rfl⟩

set_option maxHeartbeats 800000 in
set_option maxRecDepth 100000 in
theorem kResize_ok (w : World) (b gp gh cp a s : Nat) (ps : List Purse) (hs : List Hold) (n m : Int) (p : Purse) (h : BkAt w b gp gh cp ps hs) (hp : ps[a]? = some p) (ho : POk p) (hx : hs[s]? = some (true, (a : Int), m)) (hm : 0 ≤ m ∧ m ≤ p.2.1) (hn : inLim n = true) (hl : n ≤ p.1 - p.2.1 - p.2.2 + m) :
    Calls Try.prog 26 #[.pointer (some ⟨b, 0, none⟩), .int .i64 s, .int .i64 n] w fun e w' => e = .returned (.int .i64 0) ∧ BkAt w' b gp gh cp (ps.set a (p.1, p.2.1 + (n - m), p.2.2)) (hs.set s (true, (a : Int), n)) ∧ Mods (fun k => k = gp ∨ k = gh) w w' := by
  have ha : a < ps.length := (List.getElem?_eq_some_iff.1 hp).1
  have HP := Lib.hid h
  have h3 : (decide (0 ≤ n) && decide (n ≤ 4611686018427387904)) = true := hn
  have hn0 : 0 ≤ n := by simp at h3; omega
  have hn1 : n ≤ 4611686018427387904 := by simp at h3; omega
  obtain ⟨o1, o2, o3, o4, o5⟩ := ho
  obtain ⟨m0, m1⟩ := hm
  have Hx := Lib.hid hx
  have Hp := Lib.hid hp
  have HN := Lib.hid hn
  have hne : gp ≠ gh := h.h3
  have hb1 : b ≠ gp := h.h1
  clear h h3 hn hx hp
  go_enter Try.func26, Try.ntmps26
  go_upto_region 4 with (go_at_call 60; refine (kHeld1_in _ b gp gh cp s ps hs n _ HP.out Hx.out HN.out).mono ?_; rintro e w' ⟨rfl, k, rfl⟩)
  refine cutW (fun W => BkAt W b gp gh cp ps hs ∧ Mods (fun k => k = gp ∨ k = gh) w W) ⟨HP.out.drewN _, (Mods.refl _ w).drewN _⟩ ?_
  rintro W ⟨hB, hM⟩
  have hlt : s < hs.length := (List.getElem?_eq_some_iff.1 Hx.out).1
  have hc := hB.ho.cell
  obtain ⟨c0, c1, c2⟩ := hB.hs3 Hx.out
  obtain ⟨d0, d1, d2⟩ := hB.ps3 Hp.out
  simp only at c0 c1 c2
  have HB := Lib.hid hB
  clear hB
  go_upto_region 5 with (fail)
  go_quiet (fail)
  go_upto_region 6 with (fail)
  have hw1 : IntKind.i64.wrap (p.1 - p.2.1 - p.2.2 + m) = p.1 - p.2.1 - p.2.2 + m := by rw [IntWalk.i64_in _ (by omega)]
  go_region_held3 (fun w' => w'.cell? ⟨gp, a * 3, none⟩ = some (.int .i64 p.1) ∧ w'.cell? ⟨gp, a * 3 + 1, none⟩ = some (.int .i64 p.2.1) ∧ w'.cell? ⟨gp, a * 3 + 2, none⟩ = some (.int .i64 p.2.2) ∧ w'.cell? ⟨gh, s * 3 + 2, none⟩ = some (.int .i64 m)) (first | exact ⟨d0, d1, d2, c2⟩ | go_keep)
    (first
      | (go_at_call 59; refine (kLeft_any _ p.1 p.2.1 p.2.2 (by omega) (by omega)).mono ?_; rintro e w' ⟨rfl, k2, rfl⟩))
  go_upto_region 8 with (fail)
  refine cutW (fun W' => BkAt W' b gp gh cp ps hs ∧ Mods (fun k => k = gp ∨ k = gh) w W') ⟨((HB.out.drewN _).alloc _).drewN _, ((hM.drewN _).alloc _).drewN _⟩ ?_
  clear hc c0 c1 c2 d0 d1 d2 HB hM hw1
  rintro W2 ⟨hB, hM⟩
  have hc := hB.ho.cell
  obtain ⟨c0, c1, c2⟩ := hB.hs3 Hx.out
  obtain ⟨d0, d1, d2⟩ := hB.ps3 Hp.out
  simp only at c0 c1 c2
  have hz := hB.pfroz
  have HB := Lib.hid hB
  clear hB
  have hw2 : IntKind.i64.wrap (n - m) = n - m := by rw [IntWalk.i64_in _ (by omega)]
  have hw3 : IntKind.i64.wrap (p.2.1 + (n - m)) = p.2.1 + (n - m) := by rw [IntWalk.i64_in _ (by omega)]
  refine wp_region_tail 13 (by kernel_rfl) (by kernel_rfl) ?_
  simp only [List.take_succ_cons, List.take_zero, List.drop_succ_cons, List.drop_zero]
  repeat (go_big_quiet_step (fail))
  refine wpQuiet_nil ?_
  go_upto_region 9 with (fail)
  refine cutW (fun W' => BkAt W' b gp gh cp (ps.set a (p.1, p.2.1 + (n - m), p.2.2)) hs ∧ Mods (fun k => k = gp ∨ k = gh) w W') ⟨(HB.out.drewN 1).setP (j := 1) Hp.out (by omega) rfl, (hM.drewN 1).setCell (⟨gp, a * 3 + 1, none⟩ : Addr) (.inl (.inl rfl)) _⟩ ?_
  clear hc c0 c1 c2 d0 d1 d2 HB hM hw2 hw3 hz
  rintro W3 ⟨hB, hM⟩
  obtain ⟨c0, c1, c2⟩ := hB.hs3 Hx.out
  simp only at c0 c1 c2
  have hz := hB.hh.frozen
  have HB := Lib.hid hB
  clear hB
  go_wp2_with fail
  go_ret
  exact ⟨rfl, HB.out.setH1 (j := 2) Hx.out (by omega) rfl, hM.setCell (⟨gh, s * 3 + 2, none⟩ : Addr) (.inl (.inr rfl)) _⟩

set_option maxHeartbeats 800000 in
set_option maxRecDepth 100000 in
theorem kResize_limit (w : World) (b gp gh cp a s : Nat) (ps : List Purse) (hs : List Hold) (n m : Int) (p : Purse) (h : BkAt w b gp gh cp ps hs) (hp : ps[a]? = some p) (ho : POk p) (hx : hs[s]? = some (true, (a : Int), m)) (hm : 0 ≤ m ∧ m ≤ p.2.1) (hn : inLim n = true) (hl : p.1 - p.2.1 - p.2.2 + m < n) :
    Calls Try.prog 26 #[.pointer (some ⟨b, 0, none⟩), .int .i64 s, .int .i64 n] w fun e w' => e = .returned (.int .i64 170) ∧ Mods (fun k => k = gp ∨ k = gh) w w' ∧ BkAt w' b gp gh cp ps hs := by
  have ha : a < ps.length := (List.getElem?_eq_some_iff.1 hp).1
  have HP := Lib.hid h
  have h3 : (decide (0 ≤ n) && decide (n ≤ 4611686018427387904)) = true := hn
  have hn0 : 0 ≤ n := by simp at h3; omega
  have hn1 : n ≤ 4611686018427387904 := by simp at h3; omega
  obtain ⟨o1, o2, o3, o4, o5⟩ := ho
  obtain ⟨m0, m1⟩ := hm
  have Hx := Lib.hid hx
  have Hp := Lib.hid hp
  have HN := Lib.hid hn
  have hne : gp ≠ gh := h.h3
  have hb1 : b ≠ gp := h.h1
  clear h h3 hn hx hp
  go_enter Try.func26, Try.ntmps26
  go_upto_region 4 with (go_at_call 60; refine (kHeld1_in _ b gp gh cp s ps hs n _ HP.out Hx.out HN.out).mono ?_; rintro e w' ⟨rfl, k, rfl⟩)
  refine cutW (fun W => BkAt W b gp gh cp ps hs ∧ Mods (fun k => k = gp ∨ k = gh) w W) ⟨HP.out.drewN _, (Mods.refl _ w).drewN _⟩ ?_
  rintro W ⟨hB, hM⟩
  have hlt : s < hs.length := (List.getElem?_eq_some_iff.1 Hx.out).1
  have hc := hB.ho.cell
  obtain ⟨c0, c1, c2⟩ := hB.hs3 Hx.out
  obtain ⟨d0, d1, d2⟩ := hB.ps3 Hp.out
  simp only at c0 c1 c2
  have HB := Lib.hid hB
  clear hB
  go_upto_region 5 with (fail)
  go_quiet (fail)
  go_upto_region 6 with (fail)
  have hw1 : IntKind.i64.wrap (p.1 - p.2.1 - p.2.2 + m) = p.1 - p.2.1 - p.2.2 + m := by rw [IntWalk.i64_in _ (by omega)]
  go_region_held3 (fun w' => w'.cell? ⟨gp, a * 3, none⟩ = some (.int .i64 p.1) ∧ w'.cell? ⟨gp, a * 3 + 1, none⟩ = some (.int .i64 p.2.1) ∧ w'.cell? ⟨gp, a * 3 + 2, none⟩ = some (.int .i64 p.2.2) ∧ w'.cell? ⟨gh, s * 3 + 2, none⟩ = some (.int .i64 m)) (first | exact ⟨d0, d1, d2, c2⟩ | go_keep)
    (first
      | (go_at_call 59; refine (kLeft_any _ p.1 p.2.1 p.2.2 (by omega) (by omega)).mono ?_; rintro e w' ⟨rfl, k2, rfl⟩))
  go_wp2_with fail
  go_ret
  exact ⟨rfl, ((hM.drewN _).alloc _).drewN _, ((HB.out.drewN _).alloc _).drewN _⟩

end Go.Proofs.Yteggpdhkpmkldaa
