/- What a ring op reads as. -/
import Derived.Test.YtfmmaigaanikgaaLaw
namespace Go.Proofs.Ytfmmaigaanikgaa
open Go.ChangeShapes Go.WideShapes Go.ChangeAt Go.RowKit

/-- What the cells read as. -/
def rOp2 (x : Int × Int) : List Value := [.int .i64 x.1, .int .i64 x.2]
theorem rOpRead {H : Type} {enc : TypeId × Value → H} {fs : Array Field} (hfs : Try.prog.underlying 81 = some (.struct fs)) (W : World) (n : Nat) (vs : Nat → Value) (ys : List (DataW H × List MemPlace))
    (h : ∀ (j : Nat) (f : Field), fs[j]? = some f → ∃ y, ys[j]? = some y ∧ DataW.trod enc Try.prog W 0 (fun _ => true) true n f.type [vs j] = some y) :
    ∃ x : Int × Int, True ∧ ∀ j, j < fs.size → (rOp2 x)[j]? = some (vs j) := by
  rw [Try.underlying81] at hfs
  injection hfs with hfs
  injection hfs with hfs
  subst hfs
  obtain ⟨_, _, h0⟩ := h 0 _ rfl
  obtain ⟨_, _, h1⟩ := h 1 _ rfl
  obtain ⟨a0, e0, _⟩ := DataW.trod_int Try.underlying3 h0
  obtain ⟨a1, e1, _⟩ := DataW.trod_int Try.underlying3 h1
  simp only [List.cons.injEq, and_true] at e0 e1
  refine ⟨(a0, a1), trivial, fun j hj => ?_⟩
  have hj : j < 2 := hj
  match j, hj with
  | 0, _ => rw [e0]; rfl
  | 1, _ => rw [e1]; rfl

end Go.Proofs.Ytfmmaigaanikgaa
