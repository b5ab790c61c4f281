import Derived.Test.YtfmmaigaanikgaaTa
namespace Go.Proofs.Ytfmmaigaanikgaa
open Go.RowKit

set_option maxHeartbeats 400000 in
theorem streakNew_no (w : World) (m : Int) (h : m < 2 ∨ 1024 < m) :
    Calls Try.prog 16 #[.int .i64 m] w fun e w' => e = .returned (.tuple #[.pointer none, .int .i64 2]) ∧ w = w' := by
  rcases h with h | h
  · go_enter Try.func16, Try.ntmps16
    go_wp2
    go_ret2
    exact ⟨rfl, rfl⟩
  · have h' : ¬ m < 2 := by omega
    go_enter Try.func16, Try.ntmps16
    go_wp2
    go_ret2
    exact ⟨rfl, rfl⟩

set_option maxHeartbeats 400000 in
theorem streakNew_yes (w : World) (m : Int) (h : 2 ≤ m) (h' : m ≤ 1024) :
    Calls Try.prog 16 #[.int .i64 m] w fun e w' => e = .returned (.tuple #[.pointer (some ⟨w.heap.size, 0, none⟩), .int .i64 0]) ∧ w' = w.alloc (.cells #[.int .i64 m, .int .i64 0, .int .i64 0, .int .i64 0, .int .i64 0, .bool false] 42) := by
    go_enter Try.func16, Try.ntmps16
    go_wp2
    go_ret2
    exact ⟨rfl, rfl⟩

set_option maxHeartbeats 400000 in
theorem note_nil (w : World) (v q p : Int) :
    Calls Try.prog 17 #[.pointer none, .int .i64 v, .int .i64 q, .int .i64 p] w fun e w' => e = .returned (.bool false) ∧ w = w' := by
    go_enter Try.func17, Try.ntmps17
    go_wp2_with (go_at_call 55; refine (is_nil _).mono ?_; rintro e w' ⟨rfl, rfl⟩)
    go_ret
    exact ⟨rfl, rfl⟩

set_option maxHeartbeats 400000 in
theorem note_none (w : World) (b : Nat) (m v q p : Int) (h : w.cell? ⟨b, 0, none⟩ = some (.int .i64 m)) (hm : m ≤ 0) :
    Calls Try.prog 17 #[.pointer (some ⟨b, 0, none⟩), .int .i64 v, .int .i64 q, .int .i64 p] w fun e w' => e = .returned (.bool false) ∧ w = w' := by
    have hm' : decide (0 < m) = false := by simp; omega
    go_enter Try.func17, Try.ntmps17
    go_wp2_with (go_at_call 55; refine (is_some _ _ m h).mono ?_; rintro e w' ⟨rfl, rfl⟩)
    go_ret
    exact ⟨rfl, rfl⟩


theorem Ob.alloc {w : World} {b : Nat} {t : TypeId} {cs : List Value} (h : Ob w b t cs) (o : Obj) : Ob (w.alloc o) b t cs := by
  unfold Ob; rw [Below.heap_alloc _ _ _ h.lt]; exact h
theorem Ob.drewN {w : World} {b : Nat} {t : TypeId} {cs : List Value} (h : Ob w b t cs) (n : Nat) : Ob (w.drewN n) b t cs := h
theorem Ob.drew {w : World} {b : Nat} {t : TypeId} {cs : List Value} (h : Ob w b t cs) : Ob w.drew b t cs := h
theorem Ob.set {w : World} {b : Nat} {t : TypeId} {cs : List Value} (h : Ob w b t cs) (i : Nat) (v : Value) : Ob (w.setCell ⟨b, i, none⟩ v) b t (cs.set i v) := by
  unfold Ob at *
  have hl : b < w.heap.size := (Array.getElem?_eq_some_iff.1 h).1
  simp [World.setCell, Array.getElem?_modify, h]

/-- w' is w but for what block b holds, and new blocks. -/
def Upd (b : Nat) (w w' : World) : Prop := w.grownBy w' (some b)
theorem Upd.refl (b : Nat) (w : World) : Upd b w w := ⟨rfl, rfl, rfl, Nat.le_refl _, fun _ _ _ => rfl⟩
theorem Upd.trans {b : Nat} {w w1 w2 : World} (h : Upd b w w1) (k : Upd b w1 w2) : Upd b w w2 :=
  ⟨k.os.trans h.os, k.tape.trans h.tape, k.output.trans h.output, Nat.le_trans h.size k.size, fun i hi hn => (k.block i (Nat.lt_of_lt_of_le hi h.size) hn).trans (h.block i hi hn)⟩
theorem Upd.alloc {b : Nat} {w w1 : World} (h : Upd b w w1) (o : Obj) : Upd b w (w1.alloc o) :=
  h.trans ⟨rfl, rfl, rfl, by simp, fun k hk _ => Below.heap_alloc _ _ _ hk⟩
theorem Upd.drewN {b : Nat} {w w1 : World} (h : Upd b w w1) (n : Nat) : Upd b w (w1.drewN n) := ⟨h.os, h.tape, h.output, h.size, h.block⟩
theorem Upd.drew {b : Nat} {w w1 : World} (h : Upd b w w1) : Upd b w w1.drew := ⟨h.os, h.tape, h.output, h.size, h.block⟩
theorem Upd.set {b : Nat} {w w1 : World} (h : Upd b w w1) (i : Nat) (v : Value) : Upd b w (w1.setCell ⟨b, i, none⟩ v) :=
  h.trans ⟨rfl, rfl, rfl, by simp [World.setCell], fun k _ hn => Below.heap_setCell _ _ _ _ (fun e => hn (by rw [e]))⟩
theorem Upd.setNew {b : Nat} {w w1 : World} (h : Upd b w w1) (a : Addr) (ha : w.heap.size ≤ a.block) (v : Value) : Upd b w (w1.setCell a v) :=
  ⟨h.os, h.tape, h.output, Nat.le_trans h.size (by simp [World.setCell]), fun k hk hn => (Below.heap_setCell _ _ _ _ (by omega)).trans (h.block k hk hn)⟩

set_option maxHeartbeats 400000 in
set_option maxRecDepth 100000 in
theorem note_0 (w : World) (b : Nat) (m v q p v' q' p' c : Int) (t : Bool) (ho : Ob w b 42 [.int .i64 m, .int .i64 v', .int .i64 q', .int .i64 p', .int .i64 c, .bool t]) (hm : 0 < m) (hc1 : c = 0) :
    Calls Try.prog 17 #[.pointer (some ⟨b, 0, none⟩), .int .i64 v, .int .i64 q, .int .i64 p] w fun e w' => e = .returned (.bool (t || decide (m ≤ 1))) ∧ Ob w' b 42 [.int .i64 m, .int .i64 v, .int .i64 q, .int .i64 p, .int .i64 (1), .bool (t || decide (m ≤ 1))] ∧ Upd b w w' := by
    have hm' : decide (0 < m) = true := by simp; omega
    subst hc1
    have hb : b < w.heap.size := ho.lt
    have hc := ho.cell
    have hz := ho.frozen
    go_enter Try.func17, Try.ntmps17
    go_wp2_with (go_at_call 55; refine (is_some _ _ m (ho.cell 0)).mono ?_; rintro e w' ⟨rfl, rfl⟩)
    go_quiet (fail)
    go_wp2
    refine cutW (fun W => Ob W b 42 [.int .i64 m, .int .i64 v, .int .i64 q, .int .i64 p, .int .i64 (1), .bool t] ∧ Upd b w W) ⟨((((((ho.alloc _).drewN _).set 4 _).set 1 _).set 2 _).set 3 _).set 4 _, (((((((Upd.refl _ _).alloc _).drewN _).set 4 _).set 1 _).set 2 _).set 3 _).set 4 _⟩ ?_
    clear hb hc hz
    rintro W ⟨hO, hU⟩
    have hb : b < W.heap.size := hO.lt
    have hc := hO.cell
    have hz := hO.frozen
    cases t
    · refine wp_region_tail 18 (by kernel_rfl) (by kernel_rfl) ?_
      simp only [List.take_succ_cons, List.take_zero, List.drop_succ_cons, List.drop_zero]
      repeat (go_big_quiet_step (fail))
      refine wpQuiet_nil ?_
      go_wp2
      go_ret
      exact ⟨rfl, (hO.set 5 _).drew, (hU.set 5 _).drew⟩
    · refine wp_region_tail 18 (by kernel_rfl) (by kernel_rfl) ?_
      simp only [List.take_succ_cons, List.take_zero, List.drop_succ_cons, List.drop_zero]
      repeat (go_big_quiet_step (fail))
      refine wpQuiet_nil ?_
      go_wp2
      go_ret
      exact ⟨rfl, (hO.set 5 _).drew, (hU.set 5 _).drew⟩
set_option maxHeartbeats 400000 in
set_option maxRecDepth 100000 in
theorem note_d (w : World) (b : Nat) (m v q p v' q' p' c : Int) (t : Bool) (ho : Ob w b 42 [.int .i64 m, .int .i64 v', .int .i64 q', .int .i64 p', .int .i64 c, .bool t]) (hm : 0 < m) (hc1 : c ≠ 0) (hx : (v == v' && (q == q' && (p == p' && true))) = false) :
    Calls Try.prog 17 #[.pointer (some ⟨b, 0, none⟩), .int .i64 v, .int .i64 q, .int .i64 p] w fun e w' => e = .returned (.bool (t || decide (m ≤ 1))) ∧ Ob w' b 42 [.int .i64 m, .int .i64 v, .int .i64 q, .int .i64 p, .int .i64 (1), .bool (t || decide (m ≤ 1))] ∧ Upd b w w' := by
    have hm' : decide (0 < m) = true := by simp; omega
    have hd : (c == 0) = false := by simpa using hc1
    have hE := neq40 v q p v' q' p' _ hx
    have hG := guard40
    clear hx hc1
    have hb : b < w.heap.size := ho.lt
    have hc := ho.cell
    have hz := ho.frozen
    go_enter Try.func17, Try.ntmps17
    go_wp2_with (go_at_call 55; refine (is_some _ _ m (ho.cell 0)).mono ?_; rintro e w' ⟨rfl, rfl⟩)
    go_quiet (fail)
    go_wp2
    refine cutW (fun W => Ob W b 42 [.int .i64 m, .int .i64 v, .int .i64 q, .int .i64 p, .int .i64 (1), .bool t] ∧ Upd b w W) ⟨((((((ho.alloc _).drewN _).set 4 _).set 1 _).set 2 _).set 3 _).set 4 _, (((((((Upd.refl _ _).alloc _).drewN _).set 4 _).set 1 _).set 2 _).set 3 _).set 4 _⟩ ?_
    clear hb hc hz
    rintro W ⟨hO, hU⟩
    have hb : b < W.heap.size := hO.lt
    have hc := hO.cell
    have hz := hO.frozen
    cases t
    · refine wp_region_tail 18 (by kernel_rfl) (by kernel_rfl) ?_
      simp only [List.take_succ_cons, List.take_zero, List.drop_succ_cons, List.drop_zero]
      repeat (go_big_quiet_step (fail))
      refine wpQuiet_nil ?_
      go_wp2
      go_ret
      exact ⟨rfl, (hO.set 5 _).drew, (hU.set 5 _).drew⟩
    · refine wp_region_tail 18 (by kernel_rfl) (by kernel_rfl) ?_
      simp only [List.take_succ_cons, List.take_zero, List.drop_succ_cons, List.drop_zero]
      repeat (go_big_quiet_step (fail))
      refine wpQuiet_nil ?_
      go_wp2
      go_ret
      exact ⟨rfl, (hO.set 5 _).drew, (hU.set 5 _).drew⟩
set_option maxHeartbeats 400000 in
set_option maxRecDepth 100000 in
theorem note_s (w : World) (b : Nat) (m v q p v' q' p' c : Int) (t : Bool) (ho : Ob w b 42 [.int .i64 m, .int .i64 v', .int .i64 q', .int .i64 p', .int .i64 c, .bool t]) (hm : 0 < m) (hc1 : c ≠ 0) (hc0 : 0 ≤ c) (hc9 : c < 100000) (hx : (v == v' && (q == q' && (p == p' && true))) = true) :
    Calls Try.prog 17 #[.pointer (some ⟨b, 0, none⟩), .int .i64 v, .int .i64 q, .int .i64 p] w fun e w' => e = .returned (.bool (t || decide (m ≤ c + 1))) ∧ Ob w' b 42 [.int .i64 m, .int .i64 v, .int .i64 q, .int .i64 p, .int .i64 (c + 1), .bool (t || decide (m ≤ c + 1))] ∧ Upd b w w' := by
    have hm' : decide (0 < m) = true := by simp; omega
    have hd : (c == 0) = false := by simpa using hc1
    have hE := neq40 v q p v' q' p' _ hx
    have hG := guard40
    clear hx hc1
    have hb : b < w.heap.size := ho.lt
    have hc := ho.cell
    have hz := ho.frozen
    go_enter Try.func17, Try.ntmps17
    go_wp2_with (go_at_call 55; refine (is_some _ _ m (ho.cell 0)).mono ?_; rintro e w' ⟨rfl, rfl⟩)
    go_quiet (fail)
    go_wp2
    refine cutW (fun W => Ob W b 42 [.int .i64 m, .int .i64 v, .int .i64 q, .int .i64 p, .int .i64 (c + 1), .bool t] ∧ Upd b w W) ⟨(((((ho.alloc _).drewN _).set 1 _).set 2 _).set 3 _).set 4 _, ((((((Upd.refl _ _).alloc _).drewN _).set 1 _).set 2 _).set 3 _).set 4 _⟩ ?_
    clear hb hc hz
    rintro W ⟨hO, hU⟩
    have hb : b < W.heap.size := hO.lt
    have hc := hO.cell
    have hz := hO.frozen
    cases t
    · refine wp_region_tail 18 (by kernel_rfl) (by kernel_rfl) ?_
      simp only [List.take_succ_cons, List.take_zero, List.drop_succ_cons, List.drop_zero]
      repeat (go_big_quiet_step (fail))
      refine wpQuiet_nil ?_
      go_wp2
      go_ret
      exact ⟨rfl, (hO.set 5 _).drew, (hU.set 5 _).drew⟩
    · refine wp_region_tail 18 (by kernel_rfl) (by kernel_rfl) ?_
      simp only [List.take_succ_cons, List.take_zero, List.drop_succ_cons, List.drop_zero]
      repeat (go_big_quiet_step (fail))
      refine wpQuiet_nil ?_
      go_wp2
      go_ret
      exact ⟨rfl, (hO.set 5 _).drew, (hU.set 5 _).drew⟩
end Go.Proofs.Ytfmmaigaanikgaa
