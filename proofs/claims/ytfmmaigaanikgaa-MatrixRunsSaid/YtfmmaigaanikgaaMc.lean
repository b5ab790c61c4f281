import Derived.Test.YtfmmaigaanikgaaMb
import Derived.Test.YtfmmaigaanikgaaTc
namespace Go.Proofs.Ytfmmaigaanikgaa
open Go.RowKit

theorem Below.alloc_set {w : World} {o : Obj} : Below w.heap.size w (w.alloc o) := (Below.refl _ _).alloc (Nat.le_refl _) _

/-- The chapter's examples. -/
theorem awake20 (w : World) : Calls Try.prog 23 #[] w fun e w' => e = .returned (.bool true) ∧ Below w.heap.size w w' := by
  go_enter Try.func23, Try.ntmps23
  go_wp2_with fail
  refine (next_any 1 5 0 w).mono ?_
  rintro e w1 ⟨he, hb1⟩
  obtain rfl : e = .returned (.tuple #[.int .i64 3, .int .i64 0]) := he
  go_wp2_with fail
  refine (next_any 4 8 5 w1).mono ?_
  rintro e w2 ⟨he, hb2⟩
  obtain rfl : e = .returned (.tuple #[.int .i64 3, .int .i64 0]) := he
  go_wp2_with fail
  refine (next_any 6 5 5 w2).mono ?_
  rintro e w3 ⟨he, hb3⟩
  obtain rfl : e = .returned (.tuple #[.int .i64 0, .int .i64 200]) := he
  go_wp2_with fail
  go_ret
  have h2 := hb1.trans (hb2.mono hb1.size)
  exact ⟨rfl, h2.trans (hb3.mono h2.size)⟩

set_option maxHeartbeats 400000 in
theorem matrixNexts_walk (w : World) (s e c : Int) :
    Calls Try.prog 6 #[.int .i64 s, .int .i64 e, .int .i64 c] w fun e w' => e = .returned (.bool true) ∧ Below w.heap.size w w' := by
  go_enter Try.func6, Try.ntmps6
  go_wp2_with fail
  refine (awake20 w).mono ?_
  rintro _ w1 ⟨rfl, hb1⟩
  go_wp2_with fail
  refine (next_any s e c w1).mono ?_
  rintro _ w2 ⟨rfl, hb2⟩
  go_wp2_with fail
  refine (refNext_any s e c w2).mono ?_
  rintro _ w3 ⟨rfl, rfl⟩
  generalize nx s e c = x
  go_wp2_with fail
  go_ret
  exact ⟨by simp, hb1.trans (hb2.mono hb1.size)⟩

theorem open_any (s : Int) (w : World) : Calls Try.prog 26 #[.int .i64 s] w fun e w' => e = .returned (.bool (decide (1 ≤ s ∧ s ≤ 5))) ∧ w = w' := by
  by_cases h : 1 ≤ s
  · by_cases h' : s ≤ 5
    · go_enter Try.func26, Try.ntmps26
      go_wp2
      go_ret
      exact ⟨by simp [h, h'], rfl⟩
    · go_enter Try.func26, Try.ntmps26
      go_wp2
      go_ret
      exact ⟨by simp [h'], rfl⟩
  · go_enter Try.func26, Try.ntmps26
    go_wp2
    go_ret
    exact ⟨by simp; omega, rfl⟩
theorem done_any (s : Int) (w : World) : Calls Try.prog 27 #[.int .i64 s] w fun e w' => e = .returned (.bool (decide (6 ≤ s ∧ s ≤ 8))) ∧ w = w' := by
  by_cases h : 6 ≤ s
  · by_cases h' : s ≤ 8
    · go_enter Try.func27, Try.ntmps27
      go_wp2
      go_ret
      exact ⟨by simp [h, h'], rfl⟩
    · go_enter Try.func27, Try.ntmps27
      go_wp2
      go_ret
      exact ⟨by simp [h'], rfl⟩
  · go_enter Try.func27, Try.ntmps27
    go_wp2
    go_ret
    exact ⟨by simp; omega, rfl⟩
theorem refOpen_any (s : Int) (w : World) : Calls Try.prog 28 #[.int .i64 s] w fun e w' => e = .returned (.bool (decide (1 ≤ s ∧ s ≤ 5))) ∧ w = w' := by
  by_cases h : 1 ≤ s
  · by_cases h' : s ≤ 5
    · go_enter Try.func28, Try.ntmps28
      go_wp2
      go_ret
      exact ⟨by simp [h, h'], rfl⟩
    · go_enter Try.func28, Try.ntmps28
      go_wp2
      go_ret
      exact ⟨by simp [h'], rfl⟩
  · go_enter Try.func28, Try.ntmps28
    go_wp2
    go_ret
    exact ⟨by simp; omega, rfl⟩
theorem refDone_any (s : Int) (w : World) : Calls Try.prog 29 #[.int .i64 s] w fun e w' => e = .returned (.bool (decide (6 ≤ s ∧ s ≤ 8))) ∧ w = w' := by
  by_cases h : 6 ≤ s
  · by_cases h' : s ≤ 8
    · go_enter Try.func29, Try.ntmps29
      go_wp2
      go_ret
      exact ⟨by simp [h, h'], rfl⟩
    · go_enter Try.func29, Try.ntmps29
      go_wp2
      go_ret
      exact ⟨by simp [h'], rfl⟩
  · go_enter Try.func29, Try.ntmps29
    go_wp2
    go_ret
    exact ⟨by simp; omega, rfl⟩

/-- A state's word. -/
def wordT : Int → ByteArray
  | 1 => ⟨#[112, 101, 110, 100, 105, 110, 103]⟩
  | 2 => ⟨#[110, 101, 119]⟩
  | 3 => ⟨#[112, 97, 114, 116, 105, 97, 108]⟩
  | 4 => ⟨#[99, 97, 110, 99, 101, 108, 105, 110, 103]⟩
  | 5 => ⟨#[114, 101, 112, 108, 97, 99, 105, 110, 103]⟩
  | 6 => ⟨#[102, 105, 108, 108, 101, 100]⟩
  | 7 => ⟨#[99, 97, 110, 99, 101, 108, 101, 100]⟩
  | 8 => ⟨#[114, 101, 106, 101, 99, 116, 101, 100]⟩
  | _ => ⟨#[]⟩
theorem wordT_out {s : Int} (h : s < 0 ∨ 8 < s) : wordT s = ⟨#[]⟩ := by
  unfold wordT
  split <;> first | rfl | omega

set_option maxHeartbeats 4000000 in
set_option maxRecDepth 100000 in
theorem word_any (s : Int) (w : World) : Calls Try.prog 30 #[.int .i64 s] w fun e w' => e = .returned (.string (wordT s)) ∧ Below w.heap.size w w' := by
  by_cases h : s < 0
  · rw [wordT_out (.inl h)]
    go_enter Try.func30, Try.ntmps30
    go_wp2
    go_ret
    exact ⟨rfl, Below.alloc_set⟩
  by_cases h2 : 8 < s
  · rw [wordT_out (.inr h2)]
    go_enter Try.func30, Try.ntmps30
    go_wp2
    go_ret
    exact ⟨rfl, Below.alloc_set⟩
  rcases (show s = 0 ∨ s = 1 ∨ s = 2 ∨ s = 3 ∨ s = 4 ∨ s = 5 ∨ s = 6 ∨ s = 7 ∨ s = 8 by omega) with rfl | rfl | rfl | rfl | rfl | rfl | rfl | rfl | rfl
  · go_enter Try.func30, Try.ntmps30
    go_wp2
    go_ret
    exact ⟨rfl, Below.alloc_set⟩
  · go_enter Try.func30, Try.ntmps30
    go_wp2
    go_ret
    exact ⟨rfl, Below.alloc_set⟩
  · go_enter Try.func30, Try.ntmps30
    go_wp2
    go_ret
    exact ⟨rfl, Below.alloc_set⟩
  · go_enter Try.func30, Try.ntmps30
    go_wp2
    go_ret
    exact ⟨rfl, Below.alloc_set⟩
  · go_enter Try.func30, Try.ntmps30
    go_wp2
    go_ret
    exact ⟨rfl, Below.alloc_set⟩
  · go_enter Try.func30, Try.ntmps30
    go_wp2
    go_ret
    exact ⟨rfl, Below.alloc_set⟩
  · go_enter Try.func30, Try.ntmps30
    go_wp2
    go_ret
    exact ⟨rfl, Below.alloc_set⟩
  · go_enter Try.func30, Try.ntmps30
    go_wp2
    go_ret
    exact ⟨rfl, Below.alloc_set⟩
  · go_enter Try.func30, Try.ntmps30
    go_wp2
    go_ret
    exact ⟨rfl, Below.alloc_set⟩
set_option maxHeartbeats 4000000 in
set_option maxRecDepth 100000 in
theorem refWord_any (s : Int) (w : World) : Calls Try.prog 31 #[.int .i64 s] w fun e w' => e = .returned (.string (wordT s)) ∧ Below w.heap.size w w' := by
  by_cases h : s < 0
  · rw [wordT_out (.inl h)]
    go_enter Try.func31, Try.ntmps31
    go_wp2
    go_ret
    exact ⟨rfl, Below.alloc_set⟩
  by_cases h2 : 8 < s
  · rw [wordT_out (.inr h2)]
    go_enter Try.func31, Try.ntmps31
    go_wp2
    go_ret
    exact ⟨rfl, Below.alloc_set⟩
  rcases (show s = 0 ∨ s = 1 ∨ s = 2 ∨ s = 3 ∨ s = 4 ∨ s = 5 ∨ s = 6 ∨ s = 7 ∨ s = 8 by omega) with rfl | rfl | rfl | rfl | rfl | rfl | rfl | rfl | rfl
  · go_enter Try.func31, Try.ntmps31
    go_wp2
    go_ret
    exact ⟨rfl, Below.alloc_set⟩
  · go_enter Try.func31, Try.ntmps31
    go_wp2
    go_ret
    exact ⟨rfl, Below.alloc_set⟩
  · go_enter Try.func31, Try.ntmps31
    go_wp2
    go_ret
    exact ⟨rfl, Below.alloc_set⟩
  · go_enter Try.func31, Try.ntmps31
    go_wp2
    go_ret
    exact ⟨rfl, Below.alloc_set⟩
  · go_enter Try.func31, Try.ntmps31
    go_wp2
    go_ret
    exact ⟨rfl, Below.alloc_set⟩
  · go_enter Try.func31, Try.ntmps31
    go_wp2
    go_ret
    exact ⟨rfl, Below.alloc_set⟩
  · go_enter Try.func31, Try.ntmps31
    go_wp2
    go_ret
    exact ⟨rfl, Below.alloc_set⟩
  · go_enter Try.func31, Try.ntmps31
    go_wp2
    go_ret
    exact ⟨rfl, Below.alloc_set⟩
  · go_enter Try.func31, Try.ntmps31
    go_wp2
    go_ret
    exact ⟨rfl, Below.alloc_set⟩

set_option maxHeartbeats 400000 in
theorem matrixWords_walk (w : World) (s : Int) :
    Calls Try.prog 8 #[.int .i64 s] w fun e w' => e = .returned (.bool true) ∧ Below w.heap.size w w' := by
  go_enter Try.func8, Try.ntmps8
  go_wp2_with fail
  refine (awake20 w).mono ?_
  rintro _ w1 ⟨rfl, hb1⟩
  generalize hx : wordT s = x
  have Hx := Lib.hid hx
  clear hx
  go_wp2_with (first | (go_at_call 26; refine (open_any _ _).mono ?_; rintro e w' ⟨rfl, rfl⟩) | (go_at_call 27; refine (done_any _ _).mono ?_; rintro e w' ⟨rfl, rfl⟩) | (go_at_call 28; refine (refOpen_any _ _).mono ?_; rintro e w' ⟨rfl, rfl⟩) | (go_at_call 29; refine (refDone_any _ _).mono ?_; rintro e w' ⟨rfl, rfl⟩))
  refine (word_any s _).mono ?_
  rintro _ w2 ⟨rfl, hb2⟩
  rw [Hx.out]
  go_wp2_with fail
  refine (refWord_any s _).mono ?_
  rintro _ w3 ⟨rfl, hb3⟩
  rw [Hx.out]
  go_wp2_with fail
  go_ret
  have h2 := hb1.trans (hb2.mono hb1.size)
  exact ⟨by simp, h2.trans (hb3.mono h2.size)⟩
end Go.Proofs.Ytfmmaigaanikgaa
