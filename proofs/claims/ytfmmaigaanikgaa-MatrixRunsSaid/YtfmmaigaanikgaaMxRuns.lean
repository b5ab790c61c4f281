/- MatrixRuns: whatever events happen, what is done stays done, what was heard of is never pending again, and what may not happen changes nothing: the law returns true for every two lists of numbers. No condition. -/
import Derived.Test.YtfmmaigaanikgaaMd
import Derived.Test.YtfmmaigaanikgaaLaw
namespace Go.Proofs.Ytfmmaigaanikgaa
open Go.ChangeShapes Go.WideShapes Go.ChangeAt Go.RowKit

set_option maxRecDepth 100000 in
theorem matrixRuns_lifted (os : Os) (started : os.Started) (H : Type) (enc : TypeId × Value → H) :
    ReturnsInHanded {} Try.checked os 7 .any (Rows.matrixRunsSpec.pre6 enc Try.prog Try.f7 Rows.matrixRunsRow.domain false) (Rows.matrixRunsSpec.post enc Try.prog Try.f7 false true false false) := by
  refine returnsInHanded_of_change (C := Try.checked) Try.own started (by kernel_rfl) Try.func7
    (ChangeSpec.witness6 (enc := enc) (C := Try.checked) false ⟨#[], #[.slice none 0 0, .slice none 0 0], []⟩ 8 (by kernel_rfl) (by kernel_rfl) (by kernel_rfl) (by kernel_rfl)) ?_
  intro W base args ds gs before hval0 hW hcnd _
  have hval : ∀ (j : Nat) t v, Try.f7.params[j]? = some t → args[j]? = some v → Value.okWide Try.prog W .any base t v := hval0
  have hW' := hW
  obtain ⟨p, q, hA0, hV, rfl, hfz, hnd⟩ := hW
  have hA : DataW.TrodAll enc Try.prog W 0 (fun _ => true) true Try.f7.params.toList args.toList ds p := hA0
  rw [Try.params7] at hA hval
  obtain ⟨v0, v1, d0, d1, p0, p1, rfl, rfl, rfl, h0, h1⟩ := trodAll_two hA
  obtain ⟨A0, n0, c0, x0, rfl, r0, l0, w0⟩ := openInts Try.underlying49 Try.underlying3 (by kernel_rfl) (hval 0 49 v0 rfl rfl) h0
  obtain ⟨A1, n1, c1, x1, rfl, r1, l1, w1⟩ := openInts Try.underlying49 Try.underlying3 (by kernel_rfl) (hval 1 49 v1 rfl rfl) h1
  refine (matrixRuns_walk W A0 n0 c0 x0 r0 l0 A1 n1 c1 x1 r1 l1).mono fun e W' ⟨he, hb⟩ => ?_
  subst he
  exact ⟨_, rfl, law_post Try.laidOut Try.underlying4 (by kernel_rfl) rfl (by rw [Try.params7]; exact List.forall_mem_cons.2 ⟨⟨by kernel_rfl, of_decide_eq_true (by kernel_rfl)⟩, List.forall_mem_cons.2 ⟨⟨by kernel_rfl, of_decide_eq_true (by kernel_rfl)⟩, List.forall_mem_nil _⟩⟩) hW' (fun hg => by subst hg; exact ⟨rfl, rfl, rfl⟩) hb⟩

theorem matrixRuns_holds : Rows.MatrixRunsSaid :=
  OpenClaim.holds_of_wide 7 Try.f7 rfl rfl rfl rfl rfl rfl rfl ⟨rfl, rfl, rfl, rfl, rfl⟩ rfl rfl rfl rfl rfl (by kernel_rfl) Try.func7 (by kernel_rfl)
    (of_decide_eq_true (by kernel_rfl)) (by unfold Func.isWrapper; rw [if_neg (of_decide_eq_false (by kernel_rfl))]; exact ⟨rfl, rfl⟩)
    (fun os started H enc _ => matrixRuns_lifted os started H enc)

#print axioms matrixRuns_holds
end Go.Proofs.Ytfmmaigaanikgaa
