/- RiskRefused: what is refused changes nothing; what is reserved and settled for nothing leaves what was: the law returns true for every list of limits, every list of ops and every op. No condition. -/
import Derived.Test.YteggpdhkpmkldaaKk
import Derived.Test.YteggpdhkpmkldaaRkO
namespace Go.Proofs.Yteggpdhkpmkldaa
open Go.ChangeShapes Go.WideShapes Go.ChangeAt Go.RowKit

set_option maxRecDepth 100000 in
theorem riskRefused_lifted (os : Os) (started : os.Started) (H : Type) (enc : TypeId × Value → H) :
    ReturnsInHanded {} Try.checked os 6 .any (Rows.riskRefusedSpec.pre6 enc Try.prog Try.f6 Rows.riskRefusedRow.domain false) (Rows.riskRefusedSpec.post enc Try.prog Try.f6 false true false false) := by
  refine returnsInHanded_of_change (C := Try.checked) Try.own started (by kernel_rfl) Try.func6
    (ChangeSpec.witness6 (enc := enc) (C := Try.checked) false ⟨#[], #[.slice none 0 0, .slice none 0 0, .agg #[.int .i64 0, .int .i64 0, .int .i64 0, .int .i64 0]], []⟩ 8 (by kernel_rfl) (by kernel_rfl) (by kernel_rfl) (by kernel_rfl)) ?_
  intro W base args ds gs before hval0 hW hcnd _
  have hval : ∀ (j : Nat) t v, Try.f6.params[j]? = some t → args[j]? = some v → Value.okWide Try.prog W .any base t v := hval0
  have hW' := hW
  obtain ⟨p, q, hA0, hV, rfl, hfz, hnd⟩ := hW
  have hA : DataW.TrodAll enc Try.prog W 0 (fun _ => true) true Try.f6.params.toList args.toList ds p := hA0
  rw [Try.params6] at hA hval
  obtain ⟨v0, v1, v2, d0, d1, d2, p0, p1, p2, rfl, rfl, rfl, h0, h1, h2⟩ := trodAll_three hA
  obtain ⟨A0, n0, c0, x0, rfl, r0, l0, w0⟩ := openInts Try.underlying54 Try.underlying3 (by kernel_rfl) (hval 0 54 v0 rfl rfl) h0
  obtain ⟨A1, n1, c1, x1, rfl, r1, l1, w1⟩ := openStructs opCells (fun _ => True) Try.underlying55 Try.underlying57 (by kernel_rfl) (by kernel_rfl) (by decide) (fun _ => rfl) (opRead Try.underlying57 W) (hval 1 55 v1 rfl rfl) h1
  obtain ⟨x2, rfl, w2⟩ := openAgg opCells (fun _ => True) Try.underlying57 (by kernel_rfl) (by kernel_rfl) (fun _ => rfl) (opRead Try.underlying57 W) (hval 2 57 v2 rfl rfl) h2
  refine (riskRefused_walk W A0 n0 c0 x0 r0 l0 A1 n1 c1 x1 r1 l1 x2).mono fun e W' ⟨he, hb⟩ => ?_
  subst he
  exact ⟨_, rfl, law_post Try.laidOut Try.underlying4 (by kernel_rfl) rfl (by rw [Try.params6]; exact List.forall_mem_cons.2 ⟨⟨by kernel_rfl, of_decide_eq_true (by kernel_rfl)⟩, List.forall_mem_cons.2 ⟨⟨by kernel_rfl, of_decide_eq_true (by kernel_rfl)⟩, List.forall_mem_cons.2 ⟨⟨by kernel_rfl, of_decide_eq_true (by kernel_rfl)⟩, List.forall_mem_nil _⟩⟩⟩) hW' (fun hg => by subst hg; exact ⟨rfl, rfl, rfl⟩) hb⟩

theorem riskRefused_holds : Rows.RiskRefusedSaid :=
  OpenClaim.holds_of_wide 6 Try.f6 rfl rfl rfl rfl rfl rfl rfl ⟨rfl, rfl, rfl, rfl, rfl⟩ rfl rfl rfl rfl rfl (by kernel_rfl) Try.func6 (by kernel_rfl)
    (of_decide_eq_true (by kernel_rfl)) (by unfold Func.isWrapper; rw [if_neg (of_decide_eq_false (by kernel_rfl))]; exact ⟨rfl, rfl⟩)
    (fun os started H enc _ => riskRefused_lifted os started H enc)

#print axioms riskRefused_holds
end Go.Proofs.Yteggpdhkpmkldaa
