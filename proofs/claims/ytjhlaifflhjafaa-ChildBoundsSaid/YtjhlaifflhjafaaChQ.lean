/- ChildBounds' walk. -/
import Derived.Test.YtjhlaifflhjafaaXi
import Derived.Test.YtjhlaifflhjafaaChP
namespace Go.Proofs.Ytjhlaifflhjafaa
open Go.ChangeShapes Go.WideShapes Go.ChangeAt Go.RowKit

set_option maxHeartbeats 800000 in
set_option maxRecDepth 100000 in
theorem childBounds_far (w : World) (id ve : ByteArray) (sd q p : Int) (A : Option Addr) (n c : Nat) (h9 : n ≤ 9223372036854775807) (h : 200 < id.size ∨ 200 < ve.size ∨ 100 < n) :
    Calls Try.prog 4 #[.agg #[.string id, .string ve, .int .i64 sd, .int .i64 q, .int .i64 p], .slice A n c] w fun e w' => e = .returned (.bool true) ∧ Below w.heap.size w w' := by
  have hO := Ob.new w 25 [.string id, .string ve, .int .i64 sd, .int .i64 q, .int .i64 p]
  have HO := Lib.hid hO
  have hsz : (w.alloc (.cells #[.string id, .string ve, .int .i64 sd, .int .i64 q, .int .i64 p] 25)).heap.size = w.heap.size + 1 := by simp
  have Hsz := Lib.hid hsz
  clear hO hsz
  by_cases h1 : 200 < id.size
  · clear h
    go_enter Try.func4, Try.ntmps4
    go_wp2_with (go_at_call 18; refine (awake21 _).mono ?_; rintro e w' ⟨rfl, hbw⟩; have hoc := (HO.out.below hbw HO.out.lt).cell)
    go_ret
    exact ⟨rfl, Below.alloc_set.trans (hbw.mono (by rw [Hsz.out]; omega))⟩
  by_cases h2 : 200 < ve.size
  · clear h
    go_enter Try.func4, Try.ntmps4
    go_wp2_with (go_at_call 18; refine (awake21 _).mono ?_; rintro e w' ⟨rfl, hbw⟩; have hoc := (HO.out.below hbw HO.out.lt).cell)
    go_ret
    exact ⟨rfl, Below.alloc_set.trans (hbw.mono (by rw [Hsz.out]; omega))⟩
  have h3 : 100 < n := by omega
  clear h
  go_enter Try.func4, Try.ntmps4
  go_wp2_with (go_at_call 18; refine (awake21 _).mono ?_; rintro e w' ⟨rfl, hbw⟩; have hoc := (HO.out.below hbw HO.out.lt).cell)
  go_ret
  exact ⟨rfl, Below.alloc_set.trans (hbw.mono (by rw [Hsz.out]; omega))⟩

theorem childBounds_walk (w : World) (x : COrd) (A : Option Addr) (n c : Nat) (ops : List COp) (hr : Rd w A n 3 (ops.flatMap chOp)) (hl : ops.length = n) :
    Calls Try.prog 4 #[.agg (ordCells x).toArray, .slice A n c] w fun e w' => e = .returned (.bool true) ∧ Below w.heap.size w w' := by
  obtain ⟨id, ve, sd, q, p⟩ := x
  by_cases h : 200 < id.size ∨ 200 < ve.size ∨ 100 < n
  · exact childBounds_far w id ve sd q p A n c hr.2.1 h
  · exact childBounds_in w id ve sd q p A n c ops hr hl (by omega) (by omega) (by omega)

end Go.Proofs.Ytjhlaifflhjafaa
