import Derived.Test.YtfmmaigaanikgaaTb
import Derived.Lib.Hide
import Derived.Deep.AppendLies
import Derived.Deep.OwnRows
namespace Go.Proofs.Ytfmmaigaanikgaa
open Go.RowKit

theorem Ob.new (w : World) (t : TypeId) (cs : List Value) : Ob (w.alloc (.cells cs.toArray t)) w.heap.size t cs := by
  exact (MapKept.heap_alloc w _).1
theorem Ob.upd {w w' : World} {b b' : Nat} {t : TypeId} {cs : List Value} (h : Ob w b t cs) (hu : Upd b' w w') (hne : b ≠ b') : Ob w' b t cs := by
  unfold Ob; rw [hu.block b h.lt (by simpa using hne)]; exact h
theorem Ob.below {B : Nat} {w w' : World} {b : Nat} {t : TypeId} {cs : List Value} (h : Ob w b t cs) (hu : Below B w w') (hne : b < B) : Ob w' b t cs := by
  unfold Ob; rw [hu.block b hne]; exact h
theorem Below.upd {B : Nat} {a w w' : World} {b : Nat} (h : Below B a w) (hu : Upd b w w') (hb : B ≤ b) (hB : B ≤ w.heap.size) : Below B a w' :=
  h.grown hu hB (fun k hk => by injection hk with hk; omega)
theorem Below.drewN {B : Nat} {a w : World} (h : Below B a w) (n : Nat) : Below B a (w.drewN n) := ⟨h.os, h.tape, h.output, h.size, h.block⟩

/-! A slice that reads as a list of cells (n elements of sz cells each), nil let in. -/
def Rd (w : World) (A : Option Addr) (n sz : Nat) (xs : List Value) : Prop :=
  xs.length = n * sz ∧ n ≤ 9223372036854775807 ∧ (0 < n → ∃ b off, A = some ⟨b, off, none⟩ ∧ b < w.heap.size ∧ ∀ j u, xs[j]? = some u → w.cell? ⟨b, off + j, none⟩ = some u)
theorem Rd.nil (w : World) (sz : Nat) : Rd w none 0 sz [] := ⟨by simp, by omega, fun h => absurd h (by omega)⟩
theorem Rd.below {w w' : World} {A : Option Addr} {n sz : Nat} {xs : List Value} (h : Rd w A n sz xs) (hb : Below w.heap.size w w') : Rd w' A n sz xs :=
  ⟨h.1, h.2.1, fun hn => by
    obtain ⟨b, off, e, hl, hc⟩ := h.2.2 hn
    exact ⟨b, off, e, Nat.lt_of_lt_of_le hl hb.size, fun j u hu => (hb.cell (p := ⟨b, off + j, none⟩) hl).trans (hc j u hu)⟩⟩
theorem Rd.at_ {w : World} {A : Option Addr} {n sz : Nat} {xs : List Value} (h : Rd w A n sz xs) (hn : 0 < n) : ∃ b off, A = some ⟨b, off, none⟩ ∧ b < w.heap.size ∧ ∀ j u, xs[j]? = some u → w.cell? ⟨b, off + j, none⟩ = some u := h.2.2 hn
theorem Rd.take {w : World} {A : Option Addr} {n sz : Nat} {xs : List Value} (h : Rd w A n sz xs) {m : Nat} (hm : m ≤ n) : Rd w A m sz (xs.take (m * sz)) := by
  refine ⟨?_, by have := h.2.1; omega, fun hp => ?_⟩
  · rw [List.length_take, h.1, Nat.min_eq_left (Nat.mul_le_mul_right sz hm)]
  · obtain ⟨b, off, e, hl, hc⟩ := h.2.2 (by omega)
    exact ⟨b, off, e, hl, fun j u hu => hc j u (by rw [List.getElem?_take] at hu; split at hu <;> simp_all)⟩
theorem Rd.of_own {w : World} {base n size c : Nat} {e : TypeId} {A : Option Addr} {xs : List Value} (h : w.ownsRow base e size (.slice A n c) n xs) : Rd w A n size xs := by
  refine ⟨h.1, ?_, fun hn => ?_⟩
  · rcases h.2 with ⟨_, h0⟩ | ⟨g, cap, cur, _, _, _, h1, h2, _⟩
    · omega
    · simp only [maxLen] at h2; omega
  · obtain ⟨g, cap, hv, _, hlt⟩ := h.form hn
    have hA : A = some ⟨g, 0, none⟩ := by injection hv
    subst hA
    exact ⟨g, 0, rfl, hlt, fun j u hu => by rw [← Go.WideShapes.add_plain]; exact h.cells (g := g) rfl j u hu⟩
theorem flat_at {α β : Type} (f : α → List β) (sz : Nat) (hf : ∀ x, (f x).length = sz) : ∀ (l : List α) (i j : Nat) (x : α), l[i]? = some x → j < sz → (l.flatMap f)[i * sz + j]? = (f x)[j]?
  | [], i, j, x, h, _ => by simp at h
  | a :: l, 0, j, x, h, hj => by
    simp only [List.getElem?_cons_zero, Option.some.injEq] at h
    subst h
    rw [List.flatMap_cons, Nat.zero_mul, Nat.zero_add, List.getElem?_append_left (by rw [hf]; exact hj)]
  | a :: l, i + 1, j, x, h, hj => by
    simp only [List.getElem?_cons_succ] at h
    rw [List.flatMap_cons, List.getElem?_append_right (by rw [hf, Nat.succ_mul]; omega), hf, ← flat_at f sz hf l i j x h hj]
    congr 1
    rw [Nat.succ_mul]
    omega
theorem flat_len {α β : Type} (f : α → List β) (sz : Nat) (hf : ∀ x, (f x).length = sz) : ∀ (l : List α), (l.flatMap f).length = l.length * sz
  | [] => by simp
  | a :: l => by rw [List.flatMap_cons, List.length_append, hf, flat_len f sz hf l, List.length_cons, Nat.succ_mul]; omega

/-! The streak's other methods. -/
set_option maxHeartbeats 400000 in
theorem count_nil (w : World) :
    Calls Try.prog 18 #[.pointer none] w fun e w' => e = .returned (.int .i64 0) ∧ w = w' := by
    go_enter Try.func18, Try.ntmps18
    go_wp2_with (go_at_call 55; refine (is_nil _).mono ?_; rintro e w' ⟨rfl, rfl⟩)
    go_ret
    exact ⟨rfl, rfl⟩
set_option maxHeartbeats 400000 in
theorem count_some (w : World) (b : Nat) (m v q p c : Int) (t : Bool) (ho : Ob w b 42 [.int .i64 m, .int .i64 v, .int .i64 q, .int .i64 p, .int .i64 c, .bool t]) (hm : 0 < m) :
    Calls Try.prog 18 #[.pointer (some ⟨b, 0, none⟩)] w fun e w' => e = .returned (.int .i64 c) ∧ w = w' := by
    have hm' : decide (0 < m) = true := by simp; omega
    have hc := ho.cell
    go_enter Try.func18, Try.ntmps18
    go_wp2_with (go_at_call 55; refine (is_some _ _ m (ho.cell 0)).mono ?_; rintro e w' ⟨rfl, rfl⟩)
    go_ret
    exact ⟨rfl, rfl⟩
set_option maxHeartbeats 400000 in
theorem count_none (w : World) (b : Nat) (v q p c : Int) (t : Bool) (ho : Ob w b 42 [.int .i64 0, .int .i64 v, .int .i64 q, .int .i64 p, .int .i64 c, .bool t]) :
    Calls Try.prog 18 #[.pointer (some ⟨b, 0, none⟩)] w fun e w' => e = .returned (.int .i64 0) ∧ w = w' := by
    have hm' : decide ((0 : Int) < 0) = false := by simp
    have hc := ho.cell
    go_enter Try.func18, Try.ntmps18
    go_wp2_with (go_at_call 55; refine (is_some _ _ 0 (ho.cell 0)).mono ?_; rintro e w' ⟨rfl, rfl⟩)
    go_ret
    exact ⟨rfl, rfl⟩

set_option maxHeartbeats 400000 in
theorem tripped_nil (w : World) :
    Calls Try.prog 22 #[.pointer none] w fun e w' => e = .returned (.bool false) ∧ w = w' := by
    go_enter Try.func22, Try.ntmps22
    go_wp2_with (go_at_call 55; refine (is_nil _).mono ?_; rintro e w' ⟨rfl, rfl⟩)
    go_ret
    exact ⟨rfl, rfl⟩
set_option maxHeartbeats 400000 in
theorem tripped_some (w : World) (b : Nat) (m v q p c : Int) (t : Bool) (ho : Ob w b 42 [.int .i64 m, .int .i64 v, .int .i64 q, .int .i64 p, .int .i64 c, .bool t]) (hm : 0 < m) :
    Calls Try.prog 22 #[.pointer (some ⟨b, 0, none⟩)] w fun e w' => e = .returned (.bool t) ∧ w = w' := by
    have hm' : decide (0 < m) = true := by simp; omega
    have hc := ho.cell
    go_enter Try.func22, Try.ntmps22
    go_wp2_with (go_at_call 55; refine (is_some _ _ m (ho.cell 0)).mono ?_; rintro e w' ⟨rfl, rfl⟩)
    go_ret
    exact ⟨rfl, rfl⟩
set_option maxHeartbeats 400000 in
theorem tripped_none (w : World) (b : Nat) (v q p c : Int) (t : Bool) (ho : Ob w b 42 [.int .i64 0, .int .i64 v, .int .i64 q, .int .i64 p, .int .i64 c, .bool t]) :
    Calls Try.prog 22 #[.pointer (some ⟨b, 0, none⟩)] w fun e w' => e = .returned (.bool false) ∧ w = w' := by
    have hm' : decide ((0 : Int) < 0) = false := by simp
    have hc := ho.cell
    go_enter Try.func22, Try.ntmps22
    go_wp2_with (go_at_call 55; refine (is_some _ _ 0 (ho.cell 0)).mono ?_; rintro e w' ⟨rfl, rfl⟩)
    go_ret
    exact ⟨rfl, rfl⟩

set_option maxHeartbeats 400000 in
theorem clear_nil (w : World) :
    Calls Try.prog 19 #[.pointer none] w fun e w' => e = .returned (.tuple #[]) ∧ w = w' := by
    go_enter Try.func19, Try.ntmps19
    go_wp2_with (go_at_call 55; refine (is_nil _).mono ?_; rintro e w' ⟨rfl, rfl⟩)
    go_end0
    exact ⟨rfl, rfl⟩
set_option maxHeartbeats 400000 in
theorem clear_none (w : World) (b : Nat) (v q p c : Int) (t : Bool) (ho : Ob w b 42 [.int .i64 0, .int .i64 v, .int .i64 q, .int .i64 p, .int .i64 c, .bool t]) :
    Calls Try.prog 19 #[.pointer (some ⟨b, 0, none⟩)] w fun e w' => e = .returned (.tuple #[]) ∧ w = w' := by
    have hm' : decide ((0 : Int) < 0) = false := by simp
    have hc := ho.cell
    go_enter Try.func19, Try.ntmps19
    go_wp2_with (go_at_call 55; refine (is_some _ _ 0 (ho.cell 0)).mono ?_; rintro e w' ⟨rfl, rfl⟩)
    go_end0
    exact ⟨rfl, rfl⟩
set_option maxHeartbeats 400000 in
theorem clear_some (w : World) (b : Nat) (m v q p c : Int) (t : Bool) (ho : Ob w b 42 [.int .i64 m, .int .i64 v, .int .i64 q, .int .i64 p, .int .i64 c, .bool t]) (hm : 0 < m) :
    Calls Try.prog 19 #[.pointer (some ⟨b, 0, none⟩)] w fun e w' => e = .returned (.tuple #[]) ∧ Ob w' b 42 [.int .i64 m, .int .i64 0, .int .i64 0, .int .i64 0, .int .i64 0, .bool false] ∧ Upd b w w' := by
    have hm' : decide (0 < m) = true := by simp; omega
    have hc := ho.cell
    have hz := ho.frozen
    go_enter Try.func19, Try.ntmps19
    go_wp2_with (go_at_call 55; refine (is_some _ _ m (ho.cell 0)).mono ?_; rintro e w' ⟨rfl, rfl⟩)
    go_end0
    exact ⟨rfl, ((((ho.set 1 _).set 2 _).set 3 _).set 4 _).set 5 _, (((((Upd.refl _ _).set 1 _).set 2 _).set 3 _).set 4 _).set 5 _⟩

/-- The chapter's example. -/
theorem awake07 (w : World) :
    Calls Try.prog 15 #[] w fun e w' => e = .returned (.bool true) ∧ Below w.heap.size w w' := by
    go_enter Try.func15, Try.ntmps15
    go_wp2_with fail
    refine (streakNew_yes w 3 (by omega) (by omega)).mono ?_
    rintro e w' ⟨rfl, rfl⟩
    have ho := Ob.new w 42 [.int .i64 3, .int .i64 0, .int .i64 0, .int .i64 0, .int .i64 0, .bool false]
    have hb : Below w.heap.size w (w.alloc (.cells #[.int .i64 3, .int .i64 0, .int .i64 0, .int .i64 0, .int .i64 0, .bool false] 42)) := (Below.refl _ _).alloc (Nat.le_refl _) _
    generalize (w.alloc (.cells #[.int .i64 3, .int .i64 0, .int .i64 0, .int .i64 0, .int .i64 0, .bool false] 42)) = w1 at *
    go_wp2_with fail
    refine (note_0 _ _ 3 1 5 9 _ _ _ _ _ ho (by omega) rfl).mono ?_
    rintro e w2 ⟨rfl, ho2, hu2⟩
    go_wp2_with fail
    refine (note_s _ _ 3 1 5 9 _ _ _ _ _ ho2 (by omega) (by omega) (by omega) (by omega) rfl).mono ?_
    rintro e w3 ⟨rfl, ho3, hu3⟩
    go_wp2_with fail
    refine (count_some _ _ _ _ _ _ _ _ ho3 (by omega)).mono ?_
    rintro e w' ⟨rfl, rfl⟩
    go_wp2_with fail
    refine (note_s _ _ 3 1 5 9 _ _ _ _ _ ho3 (by omega) (by omega) (by omega) (by omega) rfl).mono ?_
    rintro e w4 ⟨rfl, ho4, hu4⟩
    go_wp2_with fail
    go_ret
    refine ⟨rfl, ?_⟩
    have h2 := Below.upd hb hu2 (Nat.le_refl _) hb.size
    have h3 := Below.upd h2 hu3 (Nat.le_refl _) h2.size
    exact Below.upd h3 hu4 (Nat.le_refl _) h3.size

end Go.Proofs.Ytfmmaigaanikgaa
