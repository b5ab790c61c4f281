import Derived.Test.YtfmmaigaanikgaaTc
namespace Go.Proofs.Ytfmmaigaanikgaa
open Go.RowKit

/-- How many are the same behind one more. -/
def nc (c : Int) (same : Bool) : Int := if c = 0 ∨ same = false then 1 else c + 1
def sameB (v q p v' q' p' : Int) : Bool := v == v' && (q == q' && (p == p' && true))

theorem note_any (w : World) (b : Nat) (m v q p v' q' p' c : Int) (t : Bool) (ho : Ob w b 42 [.int .i64 m, .int .i64 v', .int .i64 q', .int .i64 p', .int .i64 c, .bool t]) (hm : 0 < m) (h0 : 0 ≤ c) (h9 : c < 100000) (c2 : Int) (t2 : Bool) (hc : c2 = nc c (sameB v q p v' q' p')) (ht : t2 = (t || decide (m ≤ c2))) :
    Calls Try.prog 17 #[.pointer (some ⟨b, 0, none⟩), .int .i64 v, .int .i64 q, .int .i64 p] w fun e w' => e = .returned (.bool t2) ∧ Ob w' b 42 [.int .i64 m, .int .i64 v, .int .i64 q, .int .i64 p, .int .i64 c2, .bool t2] ∧ Upd b w w' := by
  subst ht
  by_cases h : c = 0
  · obtain rfl : c2 = 1 := by rw [hc, nc, if_pos (.inl h)]
    exact note_0 w b m v q p v' q' p' c t ho hm h
  · cases hx : sameB v q p v' q' p' with
    | false =>
      obtain rfl : c2 = 1 := by rw [hc, nc, if_pos (.inr hx)]
      exact note_d w b m v q p v' q' p' c t ho hm h hx
    | true =>
      obtain rfl : c2 = c + 1 := by rw [hc, hx, nc, if_neg (by simp [h])]
      exact note_s w b m v q p v' q' p' c t ho hm h h0 h9 hx

theorem sameB_refl (v q p : Int) : sameB v q p v q p = true := by simp [sameB]

theorem eq23 (w : World) (c c' : Bool) (v q p v' q' p' : Int) : (Op.equalIn 10000 23 (.agg #[.bool c, .int .i64 v, .int .i64 q, .int .i64 p]) (.agg #[.bool c', .int .i64 v', .int .i64 q', .int .i64 p'])).run Try.prog w = .ok (c == c' && sameB v q p v' q' p') w :=
  eqA_of Try.underlying23 (by kernel_rfl) (eqf_cons (by rfl) (by kernel_rfl) (by kernel_rfl) (run_equalIn_bool' w _ _ _ _ Try.underlying4) (eqf_cons (by rfl) (by kernel_rfl) (by kernel_rfl) (eqI (k := .i64) Try.underlying3)
    (eqf_cons (by rfl) (by kernel_rfl) (by kernel_rfl) (eqI (k := .i64) Try.underlying3) (eqf_cons (by rfl) (by kernel_rfl) (by kernel_rfl) (eqI (k := .i64) Try.underlying3) eqf_nil))))
theorem guard23 : Try.prog.eqGuardType Try.prog.depth 23 = false := by kernel_rfl
theorem eql23 (c c' : Bool) (v q p v' q' p' : Int) (r : Bool) (h : (c == c' && sameB v q p v' q' p') = r) : ∀ w, (binOp .eql 23 (.agg #[.bool c, .int .i64 v, .int .i64 q, .int .i64 p]) (.agg #[.bool c', .int .i64 v', .int .i64 q', .int .i64 p'])).run Try.prog w = .ok (.bool r) w := by
  intro w; rw [run_eql_struct, eq23, h]; rfl

/-- Two ops by value: the blocks of the parameters. -/
def Two23 (B : Nat) (w W : World) (c c' : Bool) (v q p v' q' p' : Int) : Prop :=
  Ob W B 23 [.bool c, .int .i64 v, .int .i64 q, .int .i64 p] ∧ Ob W (B + 1) 23 [.bool c', .int .i64 v', .int .i64 q', .int .i64 p'] ∧ Below B w W

theorem two23_start (w : World) (c c' : Bool) (v q p v' q' p' : Int) :
    Two23 w.heap.size w ((w.alloc (.cells #[.bool c, .int .i64 v, .int .i64 q, .int .i64 p] 23)).alloc (.cells #[.bool c', .int .i64 v', .int .i64 q', .int .i64 p'] 23)) c c' v q p v' q' p' := by
  refine ⟨(Ob.new w 23 [.bool c, .int .i64 v, .int .i64 q, .int .i64 p]).alloc _, ?_, ((Below.refl _ _).alloc (Nat.le_refl _) _).alloc (by simp) _⟩
  have := Ob.new (w.alloc (.cells #[.bool c, .int .i64 v, .int .i64 q, .int .i64 p] 23)) 23 [.bool c', .int .i64 v', .int .i64 q', .int .i64 p']
  simpa using this
theorem Two23.below {B : Nat} {w W W' : World} {c c' : Bool} {v q p v' q' p' : Int} (h : Two23 B w W c c' v q p v' q' p') (hb : Below W.heap.size W W') : Two23 B w W' c c' v q p v' q' p' :=
  ⟨h.1.below hb h.1.lt, h.2.1.below hb h.2.1.lt, h.2.2.trans (hb.mono (by have := h.1.lt; omega))⟩
theorem Two23.upd {B s : Nat} {w W W' : World} {c c' : Bool} {v q p v' q' p' : Int} (h : Two23 B w W c c' v q p v' q' p') (hu : Upd s W W') (hs : B + 1 < s) : Two23 B w W' c c' v q p v' q' p' :=
  ⟨h.1.upd hu (by omega), h.2.1.upd hu (by omega), Below.upd h.2.2 hu (by omega) (by have := h.1.lt; omega)⟩

set_option maxHeartbeats 400000 in
set_option maxRecDepth 100000 in
theorem streakTrips_out (w : World) (m v q p v' q' p' : Int) (c c' : Bool) (h : (decide (m < 2) || (decide (100 < m) || ((c == c' && sameB v q p v' q' p') || (c || c')))) = true) :
    Calls Try.prog 3 #[.int .i64 m, .agg #[.bool c, .int .i64 v, .int .i64 q, .int .i64 p], .agg #[.bool c', .int .i64 v', .int .i64 q', .int .i64 p']] w fun e w' => e = .returned (.bool true) ∧ Below w.heap.size w w' := by
  have e1 := eql23 c c' v q p v' q' p' _ rfl
  have g1 := guard23
  generalize hr : (c == c' && sameB v q p v' q' p') = r at *
  clear hr
  by_cases h1 : m < 2
  · clear h
    go_enter Try.func3, Try.ntmps3
    go_wp2_with (go_at_call 15; refine (awake07 _).mono ?_; rintro e w' ⟨rfl, hbw⟩)
    go_ret
    exact ⟨rfl, ((two23_start w c c' v q p v' q' p').below hbw).2.2⟩
  by_cases h2 : 100 < m
  · clear h
    go_enter Try.func3, Try.ntmps3
    go_wp2_with (go_at_call 15; refine (awake07 _).mono ?_; rintro e w' ⟨rfl, hbw⟩)
    go_ret
    exact ⟨rfl, ((two23_start w c c' v q p v' q' p').below hbw).2.2⟩
  have h3 : (r || (c || c')) = true := by simpa [h1, h2] using h
  clear h
  go_enter Try.func3, Try.ntmps3
  go_wp2_with fail
  refine (awake07 _).mono ?_
  rintro e w' ⟨rfl, hbw⟩
  have hT := (two23_start w c c' v q p v' q' p').below hbw
  have ho := hT.1.cell
  have ho' := hT.2.1.cell
  cases r <;> cases c <;> cases c' <;> first | (cases h3; done) | (clear h3; go_wp2; go_ret; exact ⟨rfl, hT.2.2⟩)

end Go.Proofs.Ytfmmaigaanikgaa
