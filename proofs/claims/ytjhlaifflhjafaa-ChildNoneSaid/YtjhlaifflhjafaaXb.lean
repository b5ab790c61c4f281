import Derived.Test.YtjhlaifflhjafaaXa
import Derived.Deep.RegionHeld3
namespace Go.Proofs.Ytjhlaifflhjafaa
open Go.RowKit

/-! The child. -/
structure Ch where
  id : ByteArray
  ve : ByteArray
  sd : Int
  st : Int
  q : Int
  p : Int
  nq : Int
  np : Int
  cum : Int
def Ch.cells (c : Ch) : List Value := [.string c.id, .string c.ve, .int .i64 c.sd, .int .i64 c.st, .int .i64 c.q, .int .i64 c.p, .int .i64 c.nq, .int .i64 c.np, .int .i64 c.cum, .int .i64 0]
def CAt (w : World) (b : Nat) (c : Ch) : Prop := Ob w b 41 c.cells
/-- What holds of every child. -/
structure CInv (c : Ch) : Prop where
  st1 : 1 ≤ c.st
  st8 : c.st ≤ 8
  cum0 : 0 ≤ c.cum
  cum9 : c.cum ≤ 1099511627776
  q9 : c.q ≤ 1099511627776
  qc : -1099511627776 ≤ c.q - c.cum
  n5 : c.st = 5 → c.nq ≤ 1099511627776 ∧ (-1099511627776 ≤ c.q - c.nq ∧ c.q - c.nq ≤ 1099511627776) ∧ (c.cum ≤ c.q ∨ c.cum ≤ c.nq)
  n0 : c.st ≠ 5 → c.nq = 0
  op : c.st ≤ 4 → c.cum ≤ c.q
def isOpen (s : Int) : Bool := decide (1 ≤ s ∧ s ≤ 5)
def clm (c : Ch) : Int := if 1 ≤ c.st ∧ c.st ≤ 5 then (if c.st = 5 then (if c.q < c.nq then c.nq else c.q) - c.cum else c.q - c.cum) else 0
theorem clm_bd {c : Ch} (h : CInv c) : 0 ≤ clm c ∧ clm c ≤ 1099511627776 ∧ c.cum + clm c ≤ 1099511627776 := by
  have h1 := h.st1; have h2 := h.st8; have h3 := h.cum0; have h4 := h.cum9; have h5 := h.q9; have h6 := h.qc; have h7 := h.n5; have h8 := h.op
  unfold clm
  by_cases k1 : 1 ≤ c.st ∧ c.st ≤ 5
  · rw [if_pos k1]
    by_cases k2 : c.st = 5
    · rw [if_pos k2]
      obtain ⟨g1, g2, g3⟩ := h7 k2
      split <;> omega
    · rw [if_neg k2]
      have := h8 (by omega)
      omega
  · rw [if_neg k1]; omega

theorem max_if (a b : Int) : (if a < b then b else a) = max a b := by split <;> omega

set_option maxHeartbeats 400000 in
theorem cIs_nil (w : World) : Calls Try.prog 64 #[.pointer none] w fun e w' => e = .returned (.bool false) ∧ w = w' := by
  go_enter Try.func64, Try.ntmps64
  go_wp2
  go_ret
  exact ⟨rfl, rfl⟩
set_option maxHeartbeats 400000 in
theorem cIs_any (w : World) (b : Nat) (s : Int) (r : Bool) (h : w.cell? ⟨b, 3, none⟩ = some (.int .i64 s)) (hr : decide (0 < s) = r) : Calls Try.prog 64 #[.pointer (some ⟨b, 0, none⟩)] w fun e w' => e = .returned (.bool r) ∧ w = w' := by
  go_enter Try.func64, Try.ntmps64
  go_wp2
  go_ret
  exact ⟨rfl, rfl⟩

theorem wIn (w : World) (n lo hi : Int) : Calls Try.prog 58 #[.int .i64 n, .int .i64 lo, .int .i64 hi] w fun e w' => e = .returned (.bool (decide (lo ≤ n) && decide (n ≤ hi))) ∧ w = w' := by
  by_cases h1 : lo ≤ n
  · go_enter Try.func58, Try.ntmps58
    go_wp2
    go_ret
    exact ⟨ret_bool (by simp; omega), rfl⟩
  · go_enter Try.func58, Try.ntmps58
    go_wp2
    go_ret
    exact ⟨ret_bool (by simp; omega), rfl⟩

theorem open_b (s : Int) (w : World) (r : Bool) (hr : decide (1 ≤ s ∧ s ≤ 5) = r) : Calls Try.prog 66 #[.int .i64 s] w fun e w' => e = .returned (.bool r) ∧ w = w' := by
  subst hr; exact open_any s w
theorem done_b (s : Int) (w : World) (r : Bool) (hr : decide (6 ≤ s ∧ s ≤ 8) = r) : Calls Try.prog 96 #[.int .i64 s] w fun e w' => e = .returned (.bool r) ∧ w = w' := by
  subst hr; exact done_any s w

set_option maxHeartbeats 800000 in
theorem cClaim65 (w : World) (c : Ch) (h : CInv c) : Calls Try.prog 65 #[.agg #[.string c.id, .string c.ve, .int .i64 c.sd, .int .i64 c.st, .int .i64 c.q, .int .i64 c.p, .int .i64 c.nq, .int .i64 c.np, .int .i64 c.cum, .int .i64 0]] w fun e w' => e = .returned (.int .i64 (clm c)) ∧ Below w.heap.size w w' := by
  have h3 := h.cum0; have h4 := h.cum9; have h5 := h.q9; have h6 := h.qc; have h7 := h.n5
  by_cases k1 : 1 ≤ c.st ∧ c.st ≤ 5
  · by_cases k2 : c.st = 5
    · have hb := h7 k2
      obtain ⟨g1, g2, g3⟩ := hb
      by_cases hq : c.q < c.nq
      · have hcl : clm c = c.nq - c.cum := by unfold clm; rw [if_pos k1, if_pos k2, if_pos hq]
        obtain ⟨id, ve, sd, st, q, p, nq, np, cum⟩ := c
        simp only at *
        subst k2
        have Hcl := Lib.hid hcl
        clear hcl h h7 k1 g3
        go_enter Try.func65, Try.ntmps65
        go_wp2_with (go_at_call 66; refine (open_b 5 _ true (by decide)).mono ?_; rintro e w' ⟨rfl, rfl⟩)
        go_ret
        exact ⟨ret_int Hcl.out.symm, Below.alloc_set⟩
      · have hcl : clm c = c.q - c.cum := by unfold clm; rw [if_pos k1, if_pos k2, if_neg hq]
        obtain ⟨id, ve, sd, st, q, p, nq, np, cum⟩ := c
        simp only at *
        subst k2
        have Hcl := Lib.hid hcl
        have hq2 : nq ≤ q := by omega
        clear hq
        clear hcl h h7 k1 g3
        go_enter Try.func65, Try.ntmps65
        go_wp2_with (go_at_call 66; refine (open_b 5 _ true (by decide)).mono ?_; rintro e w' ⟨rfl, rfl⟩)
        go_ret
        exact ⟨ret_int Hcl.out.symm, Below.alloc_set⟩
    · have hcl : clm c = c.q - c.cum := by unfold clm; rw [if_pos k1, if_neg k2]
      obtain ⟨id, ve, sd, st, q, p, nq, np, cum⟩ := c
      simp only at *
      have k2' : (st == 5) = false := by simpa using k2
      have Hcl := Lib.hid hcl
      have ho : decide (1 ≤ st ∧ st ≤ 5) = true := by simpa using k1
      have Ho := Lib.hid ho
      clear hcl h h7 k1 k2 ho
      go_enter Try.func65, Try.ntmps65
      go_wp2_with (go_at_call 66; refine (open_b st _ true Ho.out).mono ?_; rintro e w' ⟨rfl, rfl⟩)
      go_ret
      exact ⟨ret_int Hcl.out.symm, Below.alloc_set⟩
  · have hcl : clm c = 0 := by unfold clm; rw [if_neg k1]
    obtain ⟨id, ve, sd, st, q, p, nq, np, cum⟩ := c
    simp only at *
    have Hcl := Lib.hid hcl
    have ho : decide (1 ≤ st ∧ st ≤ 5) = false := by simpa using k1
    have Ho := Lib.hid ho
    clear hcl h h7 k1 ho
    go_enter Try.func65, Try.ntmps65
    go_wp2_with (go_at_call 66; refine (open_b st _ false Ho.out).mono ?_; rintro e w' ⟨rfl, rfl⟩)
    go_ret
    exact ⟨ret_int Hcl.out.symm, Below.alloc_set⟩

end Go.Proofs.Ytjhlaifflhjafaa
