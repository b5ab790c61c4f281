/- StreakNone: of a streak that is none, or one that no call made, nothing is noted: for every execution that is asked of it the law returns true, and its argument reads as it did. No condition. -/
import Derived.Test.YtfmmaigaanikgaaTc
import Derived.Test.YtfmmaigaanikgaaLaw
import Derived.Lib.SmallJoins
namespace Go.Proofs.Ytfmmaigaanikgaa
open Go.ChangeShapes Go.WideShapes Go.ChangeAt Go.RowKit Go.Joins

set_option maxHeartbeats 400000 in
set_option maxRecDepth 100000 in
theorem streakNone_walk (w : World) (c : Bool) (v q p : Int) :
    Calls Try.prog 5 #[.agg #[.bool c, .int .i64 v, .int .i64 q, .int .i64 p]] w fun e w' => e = .returned (.bool true) ∧ Below w.heap.size w w' := by
  go_enter Try.func5, Try.ntmps5
  go_wp2_with (go_at_call 15; refine (awake07 _).mono ?_; rintro e w' ⟨rfl, hbw⟩)
  refine cutW (fun W => Ob W w.heap.size 23 [.bool c, .int .i64 v, .int .i64 q, .int .i64 p] ∧ Ob W w'.heap.size 42 [.int .i64 0, .int .i64 0, .int .i64 0, .int .i64 0, .int .i64 0, .bool false] ∧
    Ob W (w'.heap.size + 1) 25 [.pointer none, .pointer (some ⟨w'.heap.size, 0, none⟩)] ∧ Below w.heap.size w W) ⟨?_, ?_, ?_, ?_⟩ ?_
  · exact ((Ob.new w 23 _).below hbw (by simp)).alloc _ |>.alloc _
  · exact (Ob.new w' 42 _).alloc _
  · have := Ob.new (w'.alloc (.cells #[.int .i64 0, .int .i64 0, .int .i64 0, .int .i64 0, .int .i64 0, .bool false] 42)) 25 [.pointer none, .pointer (some ⟨w'.heap.size, 0, none⟩)]
    simpa using this
  · have h1 : Below w.heap.size w w' := ((Below.refl _ _).alloc (Nat.le_refl _) _).trans (hbw.mono (by simp))
    exact (h1.alloc h1.size _).alloc (by have := h1.size; simp; omega) _
  rintro W ⟨ho, hs, ha, hb⟩
  have hc0 := ho.cell
  have hc2 := ha.cell
  have hL : w.heap.size < W.heap.size := ho.lt
  clear hbw
  go_loop [13] (fun i => ∃ k : Nat, k ≤ 2 ∧ i = .int .i64 k) (fun i => 2 - (intOf i).toNat)
  case atStart => exact ⟨0, by omega, rfl⟩
  case round =>
    obtain ⟨k, hk, rfl⟩ := hrel
    match k, hk with
    | 0, _ =>
      go_wp2_with (first | (go_at_call 17; refine (note_nil _ _ _ _).mono ?_; rintro e w' ⟨rfl, rfl⟩) | (go_at_call 18; refine (count_nil _).mono ?_; rintro e w' ⟨rfl, rfl⟩) | (go_at_call 22; refine (tripped_nil _).mono ?_; rintro e w' ⟨rfl, rfl⟩) | (go_at_call 19; refine (clear_nil _).mono ?_; rintro e w' ⟨rfl, rfl⟩))
      go_round
      case rel => exact ⟨1, by omega, by go_num⟩
      case measure => simp [intOf]
    | 1, _ =>
      go_wp2_with (first | (go_at_call 17; refine (note_none _ _ 0 _ _ _ (hs.cell 0) (by omega)).mono ?_; rintro e w' ⟨rfl, rfl⟩) | (go_at_call 18; refine (count_none _ _ _ _ _ _ _ hs).mono ?_; rintro e w' ⟨rfl, rfl⟩) | (go_at_call 22; refine (tripped_none _ _ _ _ _ _ _ hs).mono ?_; rintro e w' ⟨rfl, rfl⟩) | (go_at_call 19; refine (clear_none _ _ _ _ _ _ _ hs).mono ?_; rintro e w' ⟨rfl, rfl⟩))
      go_round
      case rel => exact ⟨2, by omega, by go_num⟩
      case measure => simp [intOf]
    | 2, _ =>
      go_wp2
      go_ret
      exact ⟨rfl, hb⟩

set_option maxRecDepth 100000 in
theorem streakNone_lifted (os : Os) (started : os.Started) (H : Type) (enc : TypeId × Value → H) :
    ReturnsInHanded {} Try.checked os 5 .any (Rows.streakNoneSpec.pre6 enc Try.prog Try.f5 Rows.streakNoneRow.domain false) (Rows.streakNoneSpec.post enc Try.prog Try.f5 false true false false) := by
  refine returnsInHanded_of_change (C := Try.checked) Try.own started (by kernel_rfl) Try.func5
    (ChangeSpec.witness6 (enc := enc) (C := Try.checked) false ⟨#[], #[.agg #[.bool false, .int .i64 0, .int .i64 0, .int .i64 0]], []⟩ 8 (by kernel_rfl) (by kernel_rfl) (by kernel_rfl) (by kernel_rfl)) ?_
  intro W base args ds gs before hval0 hW hcnd _
  have hval : ∀ (j : Nat) t v, Try.f5.params[j]? = some t → args[j]? = some v → Value.okWide Try.prog W .any base t v := hval0
  have hW' := hW
  obtain ⟨p, q, hA0, hV, rfl, hfz, hnd⟩ := hW
  have hA : DataW.TrodAll enc Try.prog W 0 (fun _ => true) true Try.f5.params.toList args.toList ds p := hA0
  rw [Try.params5] at hA hval
  obtain ⟨v0, d0, rfl, rfl, h0⟩ := trodAll_one hA
  obtain ⟨c0, c1, c2, c3, y0, y1, y2, y3, n, rfl, rfl, hp, hy0, hy1, hy2, hy3⟩ := open_agg4 Try.underlying23 (by kernel_rfl) (by kernel_rfl) (hval 0 23 v0 rfl rfl) h0
  obtain ⟨x0, e0, _⟩ := DataW.trod_bool Try.underlying4 hy0
  obtain ⟨x1, e1, _⟩ := DataW.trod_int Try.underlying3 hy1
  obtain ⟨x2, e2, _⟩ := DataW.trod_int Try.underlying3 hy2
  obtain ⟨x3, e3, _⟩ := DataW.trod_int Try.underlying3 hy3
  simp only [List.cons.injEq, and_true] at e0 e1 e2 e3
  subst e0; subst e1; subst e2; subst e3
  refine (streakNone_walk W x0 x1 x2 x3).mono fun e W' ⟨he, hb⟩ => ?_
  subst he
  exact ⟨_, rfl, law_post Try.laidOut Try.underlying4 (by kernel_rfl) rfl (by rw [Try.params5]; intro t ht; simp at ht; subst ht; exact ⟨by kernel_rfl, of_decide_eq_true (by kernel_rfl)⟩) hW' (fun hg => by subst hg; exact ⟨rfl, rfl, rfl⟩) hb⟩

theorem streakNone_holds : Rows.StreakNoneSaid :=
  OpenClaim.holds_of_wide 5 Try.f5 rfl rfl rfl rfl rfl rfl rfl ⟨rfl, rfl, rfl, rfl, rfl⟩ rfl rfl rfl rfl rfl (by kernel_rfl) Try.func5 (by kernel_rfl)
    (of_decide_eq_true (by kernel_rfl)) (by unfold Func.isWrapper; rw [if_neg (of_decide_eq_false (by kernel_rfl))]; exact ⟨rfl, rfl⟩)
    (fun os started H enc _ => streakNone_lifted os started H enc)

#print axioms streakNone_holds
end Go.Proofs.Ytfmmaigaanikgaa
