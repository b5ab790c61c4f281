import Derived.Test.YteggpdhkpmkldaaQc
namespace Go.Proofs.Yteggpdhkpmkldaa
open Go.RowKit

/-! Which orders are right. -/
def wiB (n lo hi : Int) : Bool := decide (lo ≤ n) && decide (n ≤ hi)
theorem poWithin (w : World) (n lo hi : Int) : Calls Try.prog 79 #[.int .i64 n, .int .i64 lo, .int .i64 hi] w fun e w' => e = .returned (.bool (wiB n lo hi)) ∧ w = w' := by
  unfold wiB
  by_cases h1 : lo ≤ n
  · go_enter Try.func79, Try.ntmps79
    go_wp2
    go_ret
    exact ⟨ret_bool (by simp; omega), rfl⟩
  · go_enter Try.func79, Try.ntmps79
    go_wp2
    go_ret
    exact ⟨ret_bool (by simp; omega), rfl⟩
def owS (k : Int) : ByteArray := if k = 1 then ⟨#[68]⟩ else if k = 2 then ⟨#[70]⟩ else if k = 3 then ⟨#[71]⟩ else ⟨#[]⟩
set_option maxHeartbeats 400000 in
theorem poWord (w : World) (k : Int) : Calls Try.prog 78 #[.int .i64 k] w fun e w' => e = .returned (.string (owS k)) ∧ w = w' := by
  unfold owS
  by_cases h1 : k = 1
  · subst h1
    rw [if_pos rfl]
    go_enter Try.func78, Try.ntmps78
    go_wp2
    go_ret
    exact ⟨rfl, rfl⟩
  rw [if_neg h1]
  have b1 : (k == 1) = false := by simpa using h1
  by_cases h2 : k = 2
  · subst h2
    rw [if_pos rfl]
    clear h1
    go_enter Try.func78, Try.ntmps78
    go_wp2
    go_ret
    exact ⟨rfl, rfl⟩
  rw [if_neg h2]
  have b2 : (k == 2) = false := by simpa using h2
  by_cases h3 : k = 3
  · subst h3
    rw [if_pos rfl]
    clear h1 h2
    go_enter Try.func78, Try.ntmps78
    go_wp2
    go_ret
    exact ⟨rfl, rfl⟩
  rw [if_neg h3]
  have b3 : (k == 3) = false := by simpa using h3
  clear h1 h2 h3
  go_enter Try.func78, Try.ntmps78
  go_wp2
  go_ret
  exact ⟨rfl, rfl⟩

/-- A cancel's form. -/
def cnB (x : Od) : Bool := wiB x.sq 1 1099511627776 && nameB x.id && (x.sy.toList == []) && decide (x.sd = 0) && decide (x.q = 0) && decide (x.p = 0)

end Go.Proofs.Yteggpdhkpmkldaa
