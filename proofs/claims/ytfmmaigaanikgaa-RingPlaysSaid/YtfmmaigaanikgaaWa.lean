import Derived.Test.YtfmmaigaanikgaaSw
import Derived.Test.YtfmmaigaanikgaaBw
namespace Go.Proofs.Ytfmmaigaanikgaa
open Go.RowKit

/-! The window's functions that only read. -/
set_option maxHeartbeats 400000 in
theorem wIs_nil (w : World) : Calls Try.prog 61 #[.pointer none] w fun e w' => e = .returned (.bool false) ∧ w = w' := by
  go_enter Try.func61, Try.ntmps61
  go_wp2
  go_ret
  exact ⟨rfl, rfl⟩
set_option maxHeartbeats 400000 in
theorem wIs_some (w : World) (b : Nat) (m : Int) (h : w.cell? ⟨b, 1, none⟩ = some (.int .i64 m)) (r : Bool) (hr : decide (0 < m) = r) :
    Calls Try.prog 61 #[.pointer (some ⟨b, 0, none⟩)] w fun e w' => e = .returned (.bool r) ∧ w = w' := by
  subst hr
  go_enter Try.func61, Try.ntmps61
  go_wp2
  go_ret
  exact ⟨rfl, rfl⟩

set_option maxHeartbeats 400000 in
theorem wLast_nil (w : World) : Calls Try.prog 42 #[.pointer none] w fun e w' => e = .returned (.tuple #[.int .i64 0, .bool false]) ∧ w = w' := by
  go_enter Try.func42, Try.ntmps42
  go_wp2_with (go_at_call 61; refine (wIs_nil _).mono ?_; rintro e w' ⟨rfl, rfl⟩)
  go_ret2
  exact ⟨rfl, rfl⟩
set_option maxHeartbeats 400000 in
theorem wLast_none (w : World) (b : Nat) (d : Int) (v : Value) (ho : Ob w b 67 [.int .i64 d, .int .i64 0, v]) :
    Calls Try.prog 42 #[.pointer (some ⟨b, 0, none⟩)] w fun e w' => e = .returned (.tuple #[.int .i64 0, .bool false]) ∧ w = w' := by
  go_enter Try.func42, Try.ntmps42
  go_wp2_with (go_at_call 61; refine (wIs_some _ _ 0 (ho.cell 1) false rfl).mono ?_; rintro e w' ⟨rfl, rfl⟩)
  go_ret2
  exact ⟨rfl, rfl⟩
set_option maxHeartbeats 400000 in
theorem wLast_empty (w : World) (b c : Nat) (d m : Int) (A : Option Addr) (ho : Ob w b 67 [.int .i64 d, .int .i64 m, .slice A 0 c]) (hm : 0 < m) :
    Calls Try.prog 42 #[.pointer (some ⟨b, 0, none⟩)] w fun e w' => e = .returned (.tuple #[.int .i64 0, .bool false]) ∧ w = w' := by
  have hm' : decide (0 < m) = true := by simp; omega
  have hc := ho.cell
  go_enter Try.func42, Try.ntmps42
  go_wp2_with (go_at_call 61; refine (wIs_some _ _ m (ho.cell 1) true hm').mono ?_; rintro e w' ⟨rfl, rfl⟩)
  go_ret2
  exact ⟨rfl, rfl⟩
set_option maxHeartbeats 400000 in
theorem wLast_some (w : World) (b c q g off : Nat) (d m l : Int) (ho : Ob w b 67 [.int .i64 d, .int .i64 m, .slice (some ⟨g, off, none⟩) (q + 1) c]) (hm : 0 < m) (h9 : q < 1000000) (hl : w.cell? ⟨g, off + q, none⟩ = some (.int .i64 l)) :
    Calls Try.prog 42 #[.pointer (some ⟨b, 0, none⟩)] w fun e w' => e = .returned (.tuple #[.int .i64 l, .bool true]) ∧ ∃ k, w' = w.drewN k := by
  have hm' : decide (0 < m) = true := by simp; omega
  have hc := ho.cell
  have hz : ((q : Int) + 1 == 0) = false := by simp; omega
  have hw : IntKind.i64.wrap ((q : Int) + 1 - 1) = q := by rw [IntWalk.i64_in _ (by omega)]; omega
  have hw2 : IntKind.i64.wrap (q : Int) = q := IntWalk.i64_in _ (by omega)
  go_enter Try.func42, Try.ntmps42
  go_wp2_with (go_at_call 61; refine (wIs_some _ _ m (ho.cell 1) true hm').mono ?_; rintro e w' ⟨rfl, rfl⟩)
  go_quiet (fail)
  go_wp2
  go_ret2
  exact ⟨rfl, _, rfl⟩

end Go.Proofs.Ytfmmaigaanikgaa
