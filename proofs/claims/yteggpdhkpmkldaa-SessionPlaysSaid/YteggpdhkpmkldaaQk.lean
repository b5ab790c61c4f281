/- What a session's op reads as. -/
import Derived.Test.YteggpdhkpmkldaaQj
namespace Go.Proofs.Yteggpdhkpmkldaa
open Go.ChangeShapes Go.WideShapes Go.ChangeAt Go.RowKit

/-- Session's op. -/
abbrev XOp := Int × Int × Int × Int × ByteArray × ByteArray × Int × Int × Int
def xopCells (x : XOp) : List Value := [.int .i64 x.1, .int .i64 x.2.1, .int .i64 x.2.2.1, .int .i64 x.2.2.2.1, .string x.2.2.2.2.1, .string x.2.2.2.2.2.1, .int .i64 x.2.2.2.2.2.2.1, .int .i64 x.2.2.2.2.2.2.2.1, .int .i64 x.2.2.2.2.2.2.2.2]
theorem cellsOf85 : Try.prog.cellsOf 85 = 7 := by kernel_rfl
theorem xopRead {H : Type} {enc : TypeId × Value → H} (W : World) (n : Nat) (c : List Value) (y : DataW H × List MemPlace) (hl : c.length = 9) (h : DataW.trod enc Try.prog W 0 (fun _ => true) true n 87 c = some y) : ∃ x : XOp, True ∧ xopCells x = c := by
  match c, hl with
  | [c0, c1, c2, c3, c4, c5, c6, c7, c8], _ =>
  obtain ⟨ys, n', -, -, -, hyl, hff⟩ := DataW.trod_struct Try.underlying87 h
  obtain ⟨_, h0⟩ := fld hyl hff 0 3 0 1 _ rfl rfl rfl cellsOf3
  obtain ⟨_, h1⟩ := fld hyl hff 1 3 1 1 _ rfl rfl rfl cellsOf3
  obtain ⟨_, h2⟩ := fld hyl hff 2 85 2 7 _ rfl rfl rfl cellsOf85
  simp only [List.drop_zero, List.drop_succ_cons, List.take_succ_cons, List.take_zero] at h0 h1 h2
  obtain ⟨zs, n2, -, -, -, hzl, hgg⟩ := DataW.trod_struct Try.underlying85 h2
  obtain ⟨_, g0⟩ := fld hzl hgg 0 3 0 1 _ rfl rfl rfl cellsOf3
  obtain ⟨_, g1⟩ := fld hzl hgg 1 3 1 1 _ rfl rfl rfl cellsOf3
  obtain ⟨_, g2⟩ := fld hzl hgg 2 9 2 1 _ rfl rfl rfl cellsOf9
  obtain ⟨_, g3⟩ := fld hzl hgg 3 9 3 1 _ rfl rfl rfl cellsOf9
  obtain ⟨_, g4⟩ := fld hzl hgg 4 3 4 1 _ rfl rfl rfl cellsOf3
  obtain ⟨_, g5⟩ := fld hzl hgg 5 3 5 1 _ rfl rfl rfl cellsOf3
  obtain ⟨_, g6⟩ := fld hzl hgg 6 3 6 1 _ rfl rfl rfl cellsOf3
  simp only [List.drop_zero, List.drop_succ_cons, List.take_succ_cons, List.take_zero] at g0 g1 g2 g3 g4 g5 g6
  obtain ⟨a0, e0, _⟩ := DataW.trod_int Try.underlying3 h0
  obtain ⟨a1, e1, _⟩ := DataW.trod_int Try.underlying3 h1
  obtain ⟨b0, f0, _⟩ := DataW.trod_int Try.underlying3 g0
  obtain ⟨b1, f1, _⟩ := DataW.trod_int Try.underlying3 g1
  obtain ⟨b2, f2, _⟩ := DataW.trod_string Try.underlying9 g2
  obtain ⟨b3, f3, _⟩ := DataW.trod_string Try.underlying9 g3
  obtain ⟨b4, f4, _⟩ := DataW.trod_int Try.underlying3 g4
  obtain ⟨b5, f5, _⟩ := DataW.trod_int Try.underlying3 g5
  obtain ⟨b6, f6, _⟩ := DataW.trod_int Try.underlying3 g6
  simp only [List.cons.injEq, and_true] at e0 e1 f0 f1 f2 f3 f4 f5 f6
  exact ⟨(a0, a1, b0, b1, b2, b3, b4, b5, b6), trivial, by simp [xopCells, e0, e1, f0, f1, f2, f3, f4, f5, f6]⟩

end Go.Proofs.Yteggpdhkpmkldaa
