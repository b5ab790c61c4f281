import Derived.Test.YteggpdhkpmkldaaKa
import Derived.OwnWalk
import Derived.BigFrame
namespace Go.Proofs.Yteggpdhkpmkldaa
open Go.RowKit

theorem eq112 (w : World) (t t' : Bool) (q p q' p' : Int) : (Op.equalIn 10000 112 (.agg #[.bool t, .int .i64 q, .int .i64 p]) (.agg #[.bool t', .int .i64 q', .int .i64 p'])).run Try.prog w = .ok (t == t' && (q == q' && (p == p' && true))) w :=
  eqA_of Try.underlying112 (by kernel_rfl) (eqf_cons (by rfl) (by kernel_rfl) (by kernel_rfl) (run_equalIn_bool' w _ _ _ _ Try.underlying4)
    (eqf_cons (by rfl) (by kernel_rfl) (by kernel_rfl) (eqI (k := .i64) Try.underlying3) (eqf_cons (by rfl) (by kernel_rfl) (by kernel_rfl) (eqI (k := .i64) Try.underlying3) eqf_nil)))
theorem guard112 : Try.prog.eqGuardType Try.prog.depth 112 = false := by kernel_rfl
theorem neq112 (t t' : Bool) (q p q' p' : Int) (c : Bool) (h : (t == t' && (q == q' && (p == p' && true))) = c) : ∀ w, (binOp .neq 112 (.agg #[.bool t, .int .i64 q, .int .i64 p]) (.agg #[.bool t', .int .i64 q', .int .i64 p'])).run Try.prog w = .ok (.bool (!c)) w := by
  intro w; rw [run_neq_struct, eq112, h]; rfl

theorem BkAt.setH1 {w : World} {b gp gh cp : Nat} {ps : List Purse} {hs : List Hold} (h : BkAt w b gp gh cp ps hs) {s j : Nat} {x y : Hold} {v : Value} (hx : hs[s]? = some x) (hj : j < 3) (hy : hc y = (hc x).set j v) : BkAt (w.setCell ⟨gh, s * 3 + j, none⟩ v) b gp gh cp ps (hs.set s y) := by
  have hm : Mods (fun k => k = gh) w (w.setCell ⟨gh, s * 3 + j, none⟩ v) := (Mods.refl (fun k => k = gh) w).setCell (⟨gh, s * 3 + j, none⟩ : Addr) (Or.inl rfl) v
  refine ⟨by rw [List.length_set]; exact h.ho.mods hm h.h2, h.hp.elim fun pad hp => ⟨pad, hp.mods hm h.h3⟩, ?_, h.h1, h.h2, h.h3, h.hps, by rw [List.length_set]; exact h.hhs⟩
  have := h.hh.set (s * 3 + j) v
  have e := flat_set hc 3 (fun _ => rfl) hs [] s j x y v hx hj hy
  simp only [List.append_nil] at e
  rwa [e] at this
theorem BkAt.setP {w : World} {b gp gh cp : Nat} {ps : List Purse} {hs : List Hold} (h : BkAt w b gp gh cp ps hs) {a j : Nat} {x y : Purse} {v : Value} (hx : ps[a]? = some x) (hj : j < 3) (hy : pc y = (pc x).set j v) : BkAt (w.setCell ⟨gp, a * 3 + j, none⟩ v) b gp gh cp (ps.set a y) hs := by
  have hm : Mods (fun k => k = gp) w (w.setCell ⟨gp, a * 3 + j, none⟩ v) := (Mods.refl (fun k => k = gp) w).setCell (⟨gp, a * 3 + j, none⟩ : Addr) (Or.inl rfl) v
  obtain ⟨pad, hp⟩ := h.hp
  refine ⟨by rw [List.length_set]; exact h.ho.mods hm h.h1, ⟨pad, ?_⟩, h.hh.mods hm h.h3.symm, h.h1, h.h2, h.h3, by rw [List.length_set]; exact h.hps, h.hhs⟩
  have := hp.set (a * 3 + j) v
  rwa [flat_set pc 3 (fun _ => rfl) ps pad a j x y v hx hj hy] at this
theorem get_set_self {α : Type} {l : List α} {i : Nat} {x y : α} (h : l[i]? = some x) : (l.set i y)[i]? = some y := List.getElem?_set_self (List.getElem?_eq_some_iff.1 h).1
theorem BkAt.setH {w : World} {b gp gh cp : Nat} {ps : List Purse} {hs : List Hold} (h : BkAt w b gp gh cp ps hs) {s : Nat} {x : Hold} {t : Bool} {q n : Int} (hx : hs[s]? = some x) :
    BkAt (((w.setCell ⟨gh, s * 3, none⟩ (.bool t)).setCell ⟨gh, s * 3 + 1, none⟩ (.int .i64 q)).setCell ⟨gh, s * 3 + 2, none⟩ (.int .i64 n)) b gp gh cp ps (hs.set s (t, q, n)) := by
  have h1 := h.setH1 (j := 0) (y := (t, x.2.1, x.2.2)) (v := .bool t) hx (by omega) rfl
  have h2 := h1.setH1 (j := 1) (y := (t, q, x.2.2)) (v := .int .i64 q) (get_set_self hx) (by omega) rfl
  have h3 := h2.setH1 (j := 2) (y := (t, q, n)) (v := .int .i64 n) (get_set_self (get_set_self hx)) (by omega) rfl
  rw [List.set_set, List.set_set] at h3
  exact h3

/-- What a purse may hold. -/
def POk (p : Purse) : Prop := 0 ≤ p.1 ∧ p.1 ≤ 4611686018427387904 ∧ 0 ≤ p.2.1 ∧ 0 ≤ p.2.2 ∧ p.2.1 + p.2.2 ≤ p.1

set_option maxHeartbeats 400000 in
theorem kUsed_out (w : World) (v : Value) (i : Int) (H : Calls Try.prog 57 #[v, .int .i64 i] w fun e w' => e = .returned (.bool false) ∧ ∃ k, w' = w.drewN k) : Calls Try.prog 28 #[v, .int .i64 i] w fun e w' => e = .returned (.int .i64 0) ∧ ∃ k, w' = w.drewN k := by
  go_enter Try.func28, Try.ntmps28
  go_wp2_with (go_at_call 57; refine H.mono ?_; rintro e w' ⟨rfl, k, rfl⟩)
  go_ret
  exact ⟨rfl, k, rfl⟩
set_option maxHeartbeats 400000 in
theorem kRealised_out (w : World) (v : Value) (i : Int) (H : Calls Try.prog 57 #[v, .int .i64 i] w fun e w' => e = .returned (.bool false) ∧ ∃ k, w' = w.drewN k) : Calls Try.prog 35 #[v, .int .i64 i] w fun e w' => e = .returned (.int .i64 0) ∧ ∃ k, w' = w.drewN k := by
  go_enter Try.func35, Try.ntmps35
  go_wp2_with (go_at_call 57; refine H.mono ?_; rintro e w' ⟨rfl, k, rfl⟩)
  go_ret
  exact ⟨rfl, k, rfl⟩
set_option maxHeartbeats 400000 in
theorem kLeft_out (w : World) (v : Value) (i : Int) (H : Calls Try.prog 57 #[v, .int .i64 i] w fun e w' => e = .returned (.bool false) ∧ ∃ k, w' = w.drewN k) : Calls Try.prog 36 #[v, .int .i64 i] w fun e w' => e = .returned (.int .i64 0) ∧ ∃ k, w' = w.drewN k := by
  go_enter Try.func36, Try.ntmps36
  go_wp2_with (go_at_call 57; refine H.mono ?_; rintro e w' ⟨rfl, k, rfl⟩)
  go_ret
  exact ⟨rfl, k, rfl⟩
set_option maxHeartbeats 400000 in
theorem kHeld_out (w : World) (v : Value) (i : Int) (H : Calls Try.prog 58 #[v, .int .i64 i] w fun e w' => e = .returned (.bool false) ∧ ∃ k, w' = w.drewN k) : Calls Try.prog 33 #[v, .int .i64 i] w fun e w' => e = .returned (.tuple #[.int .i64 0, .int .i64 0, .bool false]) ∧ ∃ k, w' = w.drewN k := by
  go_enter Try.func33, Try.ntmps33
  go_wp2_with (go_at_call 58; refine H.mono ?_; rintro e w' ⟨rfl, k, rfl⟩)
  go_ret3
  exact ⟨rfl, k, rfl⟩
set_option maxHeartbeats 400000 in
theorem kReserve_nil (w : World) (v : Value) (a s n : Int) (H : Calls Try.prog 56 #[v] w fun e w' => e = .returned (.bool false) ∧ w = w') : Calls Try.prog 25 #[v, .int .i64 a, .int .i64 s, .int .i64 n] w fun e w' => e = .returned (.int .i64 1) ∧ ∃ k, w' = w.drewN k := by
  go_enter Try.func25, Try.ntmps25
  go_wp2_with (go_at_call 56; refine H.mono ?_; rintro e w' ⟨rfl, rfl⟩)
  go_ret
  exact ⟨rfl, 0, rfl⟩
set_option maxHeartbeats 400000 in
theorem kHeld1_nil (w : World) (v : Value) (s n : Int) (H : Calls Try.prog 56 #[v] w fun e w' => e = .returned (.bool false) ∧ w = w') : Calls Try.prog 60 #[v, .int .i64 s, .int .i64 n] w fun e w' => e = .returned (.int .i64 1) ∧ ∃ k, w' = w.drewN k := by
  go_enter Try.func60, Try.ntmps60
  go_wp2_with (go_at_call 56; refine H.mono ?_; rintro e w' ⟨rfl, rfl⟩)
  go_ret
  exact ⟨rfl, 0, rfl⟩
set_option maxHeartbeats 400000 in
theorem kResize_not (w : World) (v : Value) (s n x : Int) (hx : (x != 0) = true) (H : Calls Try.prog 60 #[v, .int .i64 s, .int .i64 n] w fun e w' => e = .returned (.int .i64 x) ∧ ∃ k, w' = w.drewN k) : Calls Try.prog 26 #[v, .int .i64 s, .int .i64 n] w fun e w' => e = .returned (.int .i64 x) ∧ ∃ k, w' = w.drewN k := by
  go_enter Try.func26, Try.ntmps26
  go_wp2_with (go_at_call 60; refine H.mono ?_; rintro e w' ⟨rfl, k, rfl⟩)
  go_ret
  exact ⟨rfl, k, rfl⟩
set_option maxHeartbeats 400000 in
theorem kSettle_not (w : World) (v : Value) (s n x m : Int) (hm : (if 4611686018427387904 < n then 4611686018427387904 else n) = m) (hx : (x != 0) = true) (H : Calls Try.prog 60 #[v, .int .i64 s, .int .i64 m] w fun e w' => e = .returned (.int .i64 x) ∧ ∃ k, w' = w.drewN k) : Calls Try.prog 27 #[v, .int .i64 s, .int .i64 n] w fun e w' => e = .returned (.int .i64 x) ∧ ∃ k, w' = w.drewN k := by
  go_enter Try.func27, Try.ntmps27
  go_wp2_with (go_at_call 60; refine H.mono ?_; rintro e w' ⟨rfl, k, rfl⟩)
  go_ret
  exact ⟨rfl, k, rfl⟩
set_option maxHeartbeats 400000 in
theorem kUndo_nil (w : World) (v : Value) (a n : Int) (H : Calls Try.prog 56 #[v] w fun e w' => e = .returned (.bool false) ∧ w = w') : Calls Try.prog 34 #[v, .int .i64 a, .int .i64 n] w fun e w' => e = .returned (.int .i64 1) ∧ ∃ k, w' = w.drewN k := by
  go_enter Try.func34, Try.ntmps34
  go_wp2_with (go_at_call 56; refine H.mono ?_; rintro e w' ⟨rfl, rfl⟩)
  go_ret
  exact ⟨rfl, 0, rfl⟩

end Go.Proofs.Yteggpdhkpmkldaa
