import Derived.Test.YtfmmaigaanikgaaTb
import Derived.Lib.Hide
namespace Go.Proofs.Ytfmmaigaanikgaa
open Go.RowKit

theorem Ob.new (w : World) (t : TypeId) (cs : List Value) : Ob (w.alloc (.cells cs.toArray t)) w.heap.size t cs := by
  exact (MapKept.heap_alloc w _).1
theorem Ob.upd {w w' : World} {b b' : Nat} {t : TypeId} {cs : List Value} (h : Ob w b t cs) (hu : Upd b' w w') (hne : b ≠ b') : Ob w' b t cs := by
  unfold Ob; rw [hu.block b h.lt (by simpa using hne)]; exact h
theorem Ob.below {B : Nat} {w w' : World} {b : Nat} {t : TypeId} {cs : List Value} (h : Ob w b t cs) (hu : Below B w w') (hne : b < B) : Ob w' b t cs := by
  unfold Ob; rw [hu.block b hne]; exact h
theorem Below.upd {B : Nat} {a w w' : World} {b : Nat} (h : Below B a w) (hu : Upd b w w') (hb : B ≤ b) (hB : B ≤ w.heap.size) : Below B a w' :=
  h.grown hu hB (fun k hk => by injection hk with hk; omega)
theorem Below.drewN {B : Nat} {a w : World} (h : Below B a w) (n : Nat) : Below B a (w.drewN n) := ⟨h.os, h.tape, h.output, h.size, h.block⟩

/-! The streak's other methods. -/
set_option maxHeartbeats 400000 in
theorem count_nil (w : World) :
    Calls Try.prog 18 #[.pointer none] w fun e w' => e = .returned (.int .i64 0) ∧ w = w' := by
    go_enter Try.func18, Try.ntmps18
    go_wp2_with (go_at_call 55; refine (is_nil _).mono ?_; rintro e w' ⟨rfl, rfl⟩)
    go_ret
    exact ⟨rfl, rfl⟩
set_option maxHeartbeats 400000 in
theorem count_some (w : World) (b : Nat) (m v q p c : Int) (t : Bool) (ho : Ob w b 42 [.int .i64 m, .int .i64 v, .int .i64 q, .int .i64 p, .int .i64 c, .bool t]) (hm : 0 < m) :
    Calls Try.prog 18 #[.pointer (some ⟨b, 0, none⟩)] w fun e w' => e = .returned (.int .i64 c) ∧ w = w' := by
    have hm' : decide (0 < m) = true := by simp; omega
    have hc := ho.cell
    go_enter Try.func18, Try.ntmps18
    go_wp2_with (go_at_call 55; refine (is_some _ _ m (ho.cell 0)).mono ?_; rintro e w' ⟨rfl, rfl⟩)
    go_ret
    exact ⟨rfl, rfl⟩
set_option maxHeartbeats 400000 in
theorem count_none (w : World) (b : Nat) (v q p c : Int) (t : Bool) (ho : Ob w b 42 [.int .i64 0, .int .i64 v, .int .i64 q, .int .i64 p, .int .i64 c, .bool t]) :
    Calls Try.prog 18 #[.pointer (some ⟨b, 0, none⟩)] w fun e w' => e = .returned (.int .i64 0) ∧ w = w' := by
    have hm' : decide ((0 : Int) < 0) = false := by simp
    have hc := ho.cell
    go_enter Try.func18, Try.ntmps18
    go_wp2_with (go_at_call 55; refine (is_some _ _ 0 (ho.cell 0)).mono ?_; rintro e w' ⟨rfl, rfl⟩)
    go_ret
    exact ⟨rfl, rfl⟩

set_option maxHeartbeats 400000 in
theorem tripped_nil (w : World) :
    Calls Try.prog 22 #[.pointer none] w fun e w' => e = .returned (.bool false) ∧ w = w' := by
    go_enter Try.func22, Try.ntmps22
    go_wp2_with (go_at_call 55; refine (is_nil _).mono ?_; rintro e w' ⟨rfl, rfl⟩)
    go_ret
    exact ⟨rfl, rfl⟩
set_option maxHeartbeats 400000 in
theorem tripped_some (w : World) (b : Nat) (m v q p c : Int) (t : Bool) (ho : Ob w b 42 [.int .i64 m, .int .i64 v, .int .i64 q, .int .i64 p, .int .i64 c, .bool t]) (hm : 0 < m) :
    Calls Try.prog 22 #[.pointer (some ⟨b, 0, none⟩)] w fun e w' => e = .returned (.bool t) ∧ w = w' := by
    have hm' : decide (0 < m) = true := by simp; omega
    have hc := ho.cell
    go_enter Try.func22, Try.ntmps22
    go_wp2_with (go_at_call 55; refine (is_some _ _ m (ho.cell 0)).mono ?_; rintro e w' ⟨rfl, rfl⟩)
    go_ret
    exact ⟨rfl, rfl⟩
set_option maxHeartbeats 400000 in
theorem tripped_none (w : World) (b : Nat) (v q p c : Int) (t : Bool) (ho : Ob w b 42 [.int .i64 0, .int .i64 v, .int .i64 q, .int .i64 p, .int .i64 c, .bool t]) :
    Calls Try.prog 22 #[.pointer (some ⟨b, 0, none⟩)] w fun e w' => e = .returned (.bool false) ∧ w = w' := by
    have hm' : decide ((0 : Int) < 0) = false := by simp
    have hc := ho.cell
    go_enter Try.func22, Try.ntmps22
    go_wp2_with (go_at_call 55; refine (is_some _ _ 0 (ho.cell 0)).mono ?_; rintro e w' ⟨rfl, rfl⟩)
    go_ret
    exact ⟨rfl, rfl⟩

set_option maxHeartbeats 400000 in
theorem clear_nil (w : World) :
    Calls Try.prog 19 #[.pointer none] w fun e w' => e = .returned (.tuple #[]) ∧ w = w' := by
    go_enter Try.func19, Try.ntmps19
    go_wp2_with (go_at_call 55; refine (is_nil _).mono ?_; rintro e w' ⟨rfl, rfl⟩)
    go_end0
    exact ⟨rfl, rfl⟩
set_option maxHeartbeats 400000 in
theorem clear_none (w : World) (b : Nat) (v q p c : Int) (t : Bool) (ho : Ob w b 42 [.int .i64 0, .int .i64 v, .int .i64 q, .int .i64 p, .int .i64 c, .bool t]) :
    Calls Try.prog 19 #[.pointer (some ⟨b, 0, none⟩)] w fun e w' => e = .returned (.tuple #[]) ∧ w = w' := by
    have hm' : decide ((0 : Int) < 0) = false := by simp
    have hc := ho.cell
    go_enter Try.func19, Try.ntmps19
    go_wp2_with (go_at_call 55; refine (is_some _ _ 0 (ho.cell 0)).mono ?_; rintro e w' ⟨rfl, rfl⟩)
    go_end0
    exact ⟨rfl, rfl⟩
set_option maxHeartbeats 400000 in
theorem clear_some (w : World) (b : Nat) (m v q p c : Int) (t : Bool) (ho : Ob w b 42 [.int .i64 m, .int .i64 v, .int .i64 q, .int .i64 p, .int .i64 c, .bool t]) (hm : 0 < m) :
    Calls Try.prog 19 #[.pointer (some ⟨b, 0, none⟩)] w fun e w' => e = .returned (.tuple #[]) ∧ Ob w' b 42 [.int .i64 m, .int .i64 0, .int .i64 0, .int .i64 0, .int .i64 0, .bool false] ∧ Upd b w w' := by
    have hm' : decide (0 < m) = true := by simp; omega
    have hc := ho.cell
    have hz := ho.frozen
    go_enter Try.func19, Try.ntmps19
    go_wp2_with (go_at_call 55; refine (is_some _ _ m (ho.cell 0)).mono ?_; rintro e w' ⟨rfl, rfl⟩)
    go_end0
    exact ⟨rfl, ((((ho.set 1 _).set 2 _).set 3 _).set 4 _).set 5 _, (((((Upd.refl _ _).set 1 _).set 2 _).set 3 _).set 4 _).set 5 _⟩

/-- The chapter's example. -/
theorem awake07 (w : World) :
    Calls Try.prog 15 #[] w fun e w' => e = .returned (.bool true) ∧ Below w.heap.size w w' := by
    go_enter Try.func15, Try.ntmps15
    go_wp2_with fail
    refine (streakNew_yes w 3 (by omega) (by omega)).mono ?_
    rintro e w' ⟨rfl, rfl⟩
    have ho := Ob.new w 42 [.int .i64 3, .int .i64 0, .int .i64 0, .int .i64 0, .int .i64 0, .bool false]
    have hb : Below w.heap.size w (w.alloc (.cells #[.int .i64 3, .int .i64 0, .int .i64 0, .int .i64 0, .int .i64 0, .bool false] 42)) := (Below.refl _ _).alloc (Nat.le_refl _) _
    generalize (w.alloc (.cells #[.int .i64 3, .int .i64 0, .int .i64 0, .int .i64 0, .int .i64 0, .bool false] 42)) = w1 at *
    go_wp2_with fail
    refine (note_0 _ _ 3 1 5 9 _ _ _ _ _ ho (by omega) rfl).mono ?_
    rintro e w2 ⟨rfl, ho2, hu2⟩
    go_wp2_with fail
    refine (note_s _ _ 3 1 5 9 _ _ _ _ _ ho2 (by omega) (by omega) (by omega) (by omega) rfl).mono ?_
    rintro e w3 ⟨rfl, ho3, hu3⟩
    go_wp2_with fail
    refine (count_some _ _ _ _ _ _ _ _ ho3 (by omega)).mono ?_
    rintro e w' ⟨rfl, rfl⟩
    go_wp2_with fail
    refine (note_s _ _ 3 1 5 9 _ _ _ _ _ ho3 (by omega) (by omega) (by omega) (by omega) rfl).mono ?_
    rintro e w4 ⟨rfl, ho4, hu4⟩
    go_wp2_with fail
    go_ret
    refine ⟨rfl, ?_⟩
    have h2 := Below.upd hb hu2 (Nat.le_refl _) hb.size
    have h3 := Below.upd h2 hu3 (Nat.le_refl _) h2.size
    exact Below.upd h3 hu4 (Nat.le_refl _) h3.size

end Go.Proofs.Ytfmmaigaanikgaa
