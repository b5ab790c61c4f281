import Derived.Test.YtfmmaigaanikgaaWd
namespace Go.Proofs.Ytfmmaigaanikgaa
open Go.RowKit

theorem wTake_ok (w : World) (b base : Nat) (wd mo now : Int) (v : Value) (ts : List Int) (h : WinO w b base wd mo v ts) (hbb : b < base) (hbs : base ≤ w.heap.size) (hr : rightB ts now = true) (hf : (cntW wd now ts : Int) < mo) :
    Calls Try.prog 40 #[.pointer (some ⟨b, 0, none⟩), .int .i64 now] w (TookP w b base wd mo v ts now) := by
  by_cases hl : (ts.length : Int) = mo
  · exact wTake_roll w b base wd mo now v ts h hbb hbs hr hf hl
  · exact wTake_less w b base wd mo now v ts h hbb hbs hr hf hl

/-! Of a window that is none. -/
set_option maxHeartbeats 400000 in
theorem wCount_nil (w : World) (now : Int) : Calls Try.prog 43 #[.pointer none, .int .i64 now] w fun e w' => e = .returned (.int .i64 0) ∧ w = w' := by
  go_enter Try.func43, Try.ntmps43
  go_wp2_with (go_at_call 42; refine (wLast_nil _).mono ?_; rintro e w' ⟨rfl, rfl⟩)
  go_ret
  exact ⟨rfl, rfl⟩
set_option maxHeartbeats 400000 in
theorem wCount_none (w : World) (b : Nat) (d now : Int) (v : Value) (ho : Ob w b 67 [.int .i64 d, .int .i64 0, v]) : Calls Try.prog 43 #[.pointer (some ⟨b, 0, none⟩), .int .i64 now] w fun e w' => e = .returned (.int .i64 0) ∧ w = w' := by
  go_enter Try.func43, Try.ntmps43
  go_wp2_with (go_at_call 42; refine (wLast_none _ b d v ho).mono ?_; rintro e w' ⟨rfl, rfl⟩)
  go_ret
  exact ⟨rfl, rfl⟩
set_option maxHeartbeats 400000 in
theorem wFree_nil (w : World) (now : Int) : Calls Try.prog 41 #[.pointer none, .int .i64 now] w fun e w' => e = .returned (.tuple #[.int .i64 0, .int .i64 1]) ∧ w = w' := by
  go_enter Try.func41, Try.ntmps41
  go_wp2_with (go_at_call 61; refine (wIs_nil _).mono ?_; rintro e w' ⟨rfl, rfl⟩)
  go_ret2
  exact ⟨rfl, rfl⟩
set_option maxHeartbeats 400000 in
theorem wFree_none (w : World) (b : Nat) (d now : Int) (v : Value) (ho : Ob w b 67 [.int .i64 d, .int .i64 0, v]) : Calls Try.prog 41 #[.pointer (some ⟨b, 0, none⟩), .int .i64 now] w fun e w' => e = .returned (.tuple #[.int .i64 0, .int .i64 1]) ∧ w = w' := by
  go_enter Try.func41, Try.ntmps41
  go_wp2_with (go_at_call 61; refine (wIs_some _ _ 0 (ho.cell 1) false rfl).mono ?_; rintro e w' ⟨rfl, rfl⟩)
  go_ret2
  exact ⟨rfl, rfl⟩
set_option maxHeartbeats 400000 in
theorem wTake_nil (w : World) (now : Int) : Calls Try.prog 40 #[.pointer none, .int .i64 now] w fun e w' => e = .returned (.int .i64 1) ∧ w = w' := by
  go_enter Try.func40, Try.ntmps40
  go_wp2_with (go_at_call 61; refine (wIs_nil _).mono ?_; rintro e w' ⟨rfl, rfl⟩)
  go_ret
  exact ⟨rfl, rfl⟩
set_option maxHeartbeats 400000 in
theorem wTake_none (w : World) (b : Nat) (d now : Int) (v : Value) (ho : Ob w b 67 [.int .i64 d, .int .i64 0, v]) : Calls Try.prog 40 #[.pointer (some ⟨b, 0, none⟩), .int .i64 now] w fun e w' => e = .returned (.int .i64 1) ∧ w = w' := by
  go_enter Try.func40, Try.ntmps40
  go_wp2_with (go_at_call 61; refine (wIs_some _ _ 0 (ho.cell 1) false rfl).mono ?_; rintro e w' ⟨rfl, rfl⟩)
  go_ret
  exact ⟨rfl, rfl⟩
set_option maxHeartbeats 400000 in
theorem wMay_nil (w : World) (now : Int) : Calls Try.prog 44 #[.pointer none, .int .i64 now] w fun e w' => e = .returned (.bool false) ∧ ∃ k, w' = w.drewN k := by
  go_enter Try.func44, Try.ntmps44
  go_wp2
  go_quiet ((go_at_call 61; exact (wIs_nil _).mono fun _ _ ⟨he, hw⟩ => ⟨he, _, hw.symm⟩))
  go_wp2
  go_ret
  exact ⟨rfl, _, rfl⟩
theorem wIs_q0 (w : World) (b n : Nat) (h : w.cell? ⟨b, 1, none⟩ = some (.int .i64 0)) :
    Calls Try.prog 61 #[.pointer (some ⟨b, 0, none⟩)] (w.drewN n) fun e w' => e = .returned (.bool false) ∧ ∃ k, w' = w.drewN k :=
  (wIs_some (w.drewN n) b 0 h false rfl).mono fun _ _ ⟨he, hw⟩ => ⟨he, n, hw.symm⟩
set_option maxHeartbeats 400000 in
theorem wMay_none (w : World) (b : Nat) (d now : Int) (v : Value) (ho : Ob w b 67 [.int .i64 d, .int .i64 0, v]) : Calls Try.prog 44 #[.pointer (some ⟨b, 0, none⟩), .int .i64 now] w fun e w' => e = .returned (.bool false) ∧ ∃ k, w' = w.drewN k := by
  go_enter Try.func44, Try.ntmps44
  go_wp2
  go_quiet ((go_at_call 61; exact wIs_q0 w b _ (ho.cell 1)))
  go_wp2
  go_ret
  exact ⟨rfl, _, rfl⟩

/-! New. -/
def WinNo (wd mo : Int) : Prop := wd < 1 ∨ 1073741824 < wd ∨ mo < 1 ∨ 1024 < mo
set_option maxHeartbeats 400000 in
theorem wNew_no (w : World) (wd mo : Int) (h : WinNo wd mo) : Calls Try.prog 39 #[.int .i64 wd, .int .i64 mo] w fun e w' => e = .returned (.tuple #[.pointer none, .int .i64 2]) ∧ w = w' := by
  by_cases h1 : wd < 1
  · go_enter Try.func39, Try.ntmps39
    go_wp2
    go_ret2
    exact ⟨rfl, rfl⟩
  by_cases h2 : 1073741824 < wd
  · go_enter Try.func39, Try.ntmps39
    go_wp2
    go_ret2
    exact ⟨rfl, rfl⟩
  by_cases h3 : mo < 1
  · go_enter Try.func39, Try.ntmps39
    go_wp2
    go_ret2
    exact ⟨rfl, rfl⟩
  have h4 : 1024 < mo := by unfold WinNo at h; omega
  clear h
  go_enter Try.func39, Try.ntmps39
  go_wp2
  go_ret2
  exact ⟨rfl, rfl⟩
set_option maxHeartbeats 400000 in
theorem wNew_yes (w : World) (wd mo : Int) (h : ¬ WinNo wd mo) : Calls Try.prog 39 #[.int .i64 wd, .int .i64 mo] w fun e w' =>
    e = .returned (.tuple #[.pointer (some ⟨w.heap.size, 0, none⟩), .int .i64 0]) ∧ WinO w' w.heap.size (w.heap.size + 1) wd mo (.slice none 0 0) [] ∧ Below w.heap.size w w' ∧ w'.heap.size = w.heap.size + 1 := by
  unfold WinNo at h
  have h1 : 1 ≤ wd ∧ wd ≤ 1073741824 := by omega
  have h2 : 1 ≤ mo ∧ mo ≤ 1024 := by omega
  clear h
  obtain ⟨a1, a2⟩ := h1
  obtain ⟨a3, a4⟩ := h2
  go_enter Try.func39, Try.ntmps39
  go_wp2
  go_ret2
  exact ⟨rfl, ⟨Ob.new w 67 [.int .i64 wd, .int .i64 mo, .slice none 0 0], own_nil _ _ _ _, ⟨a3, a4⟩, ⟨a1, a2⟩, by simp, by simp; omega⟩, (Below.refl _ _).alloc (Nat.le_refl _) _, by simp⟩

/-- The chapter's example. -/
theorem awake06 (w : World) : Calls Try.prog 38 #[] w fun e w' => e = .returned (.bool true) ∧ Below w.heap.size w w' := by
  go_enter Try.func38, Try.ntmps38
  go_wp2_with fail
  refine (wNew_yes w 3 2 (by unfold WinNo; omega)).mono ?_
  rintro e w1 ⟨rfl, h1, hb1, hz1⟩
  have hbb : w.heap.size < w.heap.size + 1 := by omega
  have hs1 : w.heap.size + 1 ≤ w1.heap.size := by omega
  generalize hbd : w.heap.size = b at *
  have Hbd := Lib.hid hbd
  clear hbd hz1
  go_wp2_with fail
  refine (wTake_ok w1 b _ 3 2 5 _ _ h1 hbb hs1 rfl (by decide)).mono ?_
  rintro e w2 ⟨rfl, v2, h2, hm2, hv2⟩
  have hb2 : Below b w w2 := Below.mods hb1 hm2 (fun k hk => by rcases hk with hk | hk; omega; simp [Value.ownBlock] at hk) (by omega)
  have hs2 : b + 1 ≤ w2.heap.size := by have := hm2.size; omega
  clear hm2 hv2 h1 hb1 hs1
  go_wp2_with fail
  refine (wTake_ok w2 b _ 3 2 6 _ _ h2 hbb hs2 rfl (by decide)).mono ?_
  rintro e w3 ⟨rfl, v3, h3, hm3, hv3⟩
  have hb3 : Below b w w3 := Below.mods hb2 hm3 (fun k hk => by rcases hk with hk | hk; omega; have := own_block h2.hown k hk; omega) (by omega)
  have hs3 : b + 1 ≤ w3.heap.size := by have := hm3.size; omega
  clear hm3 hv3 h2 hb2 hs2
  obtain ⟨A3, c3, rfl, hr3, -⟩ := h3.r
  go_wp2_with fail
  refine (wTake_full w3 b _ c3 3 2 7 _ _ hr3 rfl (by decide)).mono ?_
  rintro e w4 ⟨rfl, k4, rfl⟩
  go_wp2_with fail
  refine (wFree_any _ b _ c3 3 2 7 _ _ (hr3.drewN k4) (8, 0) (by decide)).mono ?_
  rintro e w4 ⟨rfl, k5, rfl⟩
  go_wp2_with fail
  refine (wTake_ok _ b _ 3 2 8 _ _ ((h3.drewN _)) hbb hs3 rfl (by decide)).mono ?_
  rintro e w6 ⟨rfl, v6, h6, hm6, hv6⟩
  have hb6 : Below b w w6 := Below.mods (Below.drewN hb3 _) hm6 (fun k hk => by rcases hk with hk | hk; omega; have := own_block h3.hown k hk; omega) (by show b ≤ w3.heap.size; omega)
  go_wp2_with fail
  go_ret
  exact ⟨rfl, by rw [Hbd.out]; exact hb6⟩

end Go.Proofs.Ytfmmaigaanikgaa
