/- What an op of Match reads as. -/
import Derived.Test.YtjhlaifflhjafaaLaw
namespace Go.Proofs.Ytjhlaifflhjafaa
open Go.ChangeShapes Go.WideShapes Go.ChangeAt Go.RowKit

/-- What the cells read as. -/
def maCells (x : Int × ByteArray × Int × Int × Int) : List Value := [.int .i64 x.1, .string x.2.1, .int .i64 x.2.2.1, .int .i64 x.2.2.2.1, .int .i64 x.2.2.2.2]
theorem maRead {H : Type} {enc : TypeId × Value → H} {fs : Array Field} (hfs : Try.prog.underlying 90 = some (.struct fs)) (W : World) (n : Nat) (vs : Nat → Value) (ys : List (DataW H × List MemPlace))
    (h : ∀ (j : Nat) (f : Field), fs[j]? = some f → ∃ y, ys[j]? = some y ∧ DataW.trod enc Try.prog W 0 (fun _ => true) true n f.type [vs j] = some y) :
    ∃ x : Int × ByteArray × Int × Int × Int, True ∧ ∀ j, j < fs.size → (maCells x)[j]? = some (vs j) := by
  rw [Try.underlying90] at hfs
  injection hfs with hfs
  injection hfs with hfs
  subst hfs
  obtain ⟨_, _, h0⟩ := h 0 _ rfl
  obtain ⟨_, _, h1⟩ := h 1 _ rfl
  obtain ⟨_, _, h2⟩ := h 2 _ rfl
  obtain ⟨_, _, h3⟩ := h 3 _ rfl
  obtain ⟨_, _, h4⟩ := h 4 _ rfl
  obtain ⟨a0, e0, _⟩ := DataW.trod_int Try.underlying3 h0
  obtain ⟨a1, e1, _⟩ := DataW.trod_string Try.underlying9 h1
  obtain ⟨a2, e2, _⟩ := DataW.trod_int Try.underlying3 h2
  obtain ⟨a3, e3, _⟩ := DataW.trod_int Try.underlying3 h3
  obtain ⟨a4, e4, _⟩ := DataW.trod_int Try.underlying3 h4
  simp only [List.cons.injEq, and_true] at e0 e1 e2 e3 e4
  refine ⟨(a0, a1, a2, a3, a4), trivial, fun j hj => ?_⟩
  have hj : j < 5 := hj
  match j, hj with
  | 0, _ => rw [e0]; rfl
  | 1, _ => rw [e1]; rfl
  | 2, _ => rw [e2]; rfl
  | 3, _ => rw [e3]; rfl
  | 4, _ => rw [e4]; rfl

end Go.Proofs.Ytjhlaifflhjafaa
