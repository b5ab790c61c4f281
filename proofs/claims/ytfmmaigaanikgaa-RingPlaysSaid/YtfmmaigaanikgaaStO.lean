import Derived.Test.YtfmmaigaanikgaaSt
import Derived.Test.YtfmmaigaanikgaaLaw
namespace Go.Proofs.Ytfmmaigaanikgaa
open Go.ChangeShapes Go.WideShapes Go.ChangeAt Go.RowKit

/-- What an op's four cells read as. -/
def opCells (x : Bool × Int × Int × Int) : List Value := [.bool x.1, .int .i64 x.2.1, .int .i64 x.2.2.1, .int .i64 x.2.2.2]
theorem opRead {H : Type} {enc : TypeId × Value → H} {fs : Array Field} (hfs : Try.prog.underlying 23 = some (.struct fs)) (W : World) (n : Nat) (vs : Nat → Value) (ys : List (DataW H × List MemPlace))
    (h : ∀ (j : Nat) (f : Field), fs[j]? = some f → ∃ y, ys[j]? = some y ∧ DataW.trod enc Try.prog W 0 (fun _ => true) true n f.type [vs j] = some y) :
    ∃ x : Bool × Int × Int × Int, True ∧ ∀ j, j < fs.size → (opCells x)[j]? = some (vs j) := by
  rw [Try.underlying23] at hfs
  injection hfs with hfs
  injection hfs with hfs
  subst hfs
  obtain ⟨_, _, h0⟩ := h 0 _ rfl
  obtain ⟨_, _, h1⟩ := h 1 _ rfl
  obtain ⟨_, _, h2⟩ := h 2 _ rfl
  obtain ⟨_, _, h3⟩ := h 3 _ rfl
  obtain ⟨a, e0, _⟩ := DataW.trod_bool Try.underlying4 h0
  obtain ⟨b, e1, _⟩ := DataW.trod_int Try.underlying3 h1
  obtain ⟨c, e2, _⟩ := DataW.trod_int Try.underlying3 h2
  obtain ⟨d, e3, _⟩ := DataW.trod_int Try.underlying3 h3
  simp only [List.cons.injEq, and_true] at e0 e1 e2 e3
  refine ⟨(a, b, c, d), trivial, fun j hj => ?_⟩
  have hj : j < 4 := hj
  match j, hj with
  | 0, _ => rw [e0]; rfl
  | 1, _ => rw [e1]; rfl
  | 2, _ => rw [e2]; rfl
  | 3, _ => rw [e3]; rfl

end Go.Proofs.Ytfmmaigaanikgaa
