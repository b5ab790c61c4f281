import Derived.Test.YtfmmaigaanikgaaSt
import Derived.Test.YtfmmaigaanikgaaStO
namespace Go.Proofs.Ytfmmaigaanikgaa
open Go.RowKit

/-- An execution. -/
def fcells (x : Int × Int × Int) : List Value := [.int .i64 x.1, .int .i64 x.2.1, .int .i64 x.2.2]

theorem eq35 (w : World) (v q p v' q' p' : Int) : (Op.equalIn 10000 35 (.agg #[.int .i64 v, .int .i64 q, .int .i64 p]) (.agg #[.int .i64 v', .int .i64 q', .int .i64 p'])).run Try.prog w = .ok (sameB v q p v' q' p') w :=
  eqA_of Try.underlying35 (by kernel_rfl) (eqf_cons (by rfl) (by kernel_rfl) (by kernel_rfl) (eqI (k := .i64) Try.underlying3)
    (eqf_cons (by rfl) (by kernel_rfl) (by kernel_rfl) (eqI (k := .i64) Try.underlying3) (eqf_cons (by rfl) (by kernel_rfl) (by kernel_rfl) (eqI (k := .i64) Try.underlying3) eqf_nil)))
theorem guard35 : Try.prog.eqGuardType Try.prog.depth 35 = false := by kernel_rfl
theorem eql35 (v q p v' q' p' : Int) (r : Bool) (h : sameB v q p v' q' p' = r) : ∀ w, (binOp .eql 35 (.agg #[.int .i64 v, .int .i64 q, .int .i64 p]) (.agg #[.int .i64 v', .int .i64 q', .int .i64 p'])).run Try.prog w = .ok (.bool r) w := by
  intro w; rw [run_eql_struct, eq35, h]; rfl

/-- How many at the begin of a list are f. -/
def lead (f : Int × Int × Int) : List (Int × Int × Int) → Nat
  | [] => 0
  | g :: r => if g = f then lead f r + 1 else 0
/-- How many at the end are the same. -/
def cntL (l : List (Int × Int × Int)) : Nat :=
  match l.reverse with
  | [] => 0
  | f :: r => lead f r + 1

theorem sameB_iff (x y : Int × Int × Int) : sameB x.1 x.2.1 x.2.2 y.1 y.2.1 y.2.2 = decide (x = y) := by
  obtain ⟨a, b, c⟩ := x
  obtain ⟨a', b', c'⟩ := y
  simp only [sameB, Bool.and_true]
  rw [Bool.eq_iff_iff]
  simp

/-- Round by round: behind n rounds the last n are the same. -/
theorem lead_split (f : Int × Int × Int) : ∀ (r : List (Int × Int × Int)) (n : Nat), (∀ i g, i < n → r[i]? = some g → g = f) → n ≤ r.length → (n = r.length ∨ ∃ g, r[n]? = some g ∧ g ≠ f) → lead f r = n
  | [], n, _, h, _ => by simp at h; subst h; rfl
  | a :: r, 0, _, _, h => by
    rcases h with h | ⟨g, h, hn⟩
    · simp at h
    · simp at h; subst h; exact if_neg hn
  | a :: r, n + 1, h, hl, he => by
    have h0 := h 0 a (by omega) rfl
    rw [lead, if_pos h0, lead_split f r n (fun i g hi hg => h (i + 1) g (by omega) (by simpa using hg)) (by simpa using hl) (by simpa using he)]

end Go.Proofs.Ytfmmaigaanikgaa
