/- RiskPlays: every play of reservations, changes, settlements and what is taken back is the document's, account by account, slot by slot: the law returns true for every list of limits, every number of slots and every list of ops. No condition. -/
import Derived.Test.YteggpdhkpmkldaaKt
import Derived.Test.YteggpdhkpmkldaaRkO
namespace Go.Proofs.Yteggpdhkpmkldaa
open Go.ChangeShapes Go.WideShapes Go.ChangeAt Go.RowKit

set_option maxRecDepth 100000 in
theorem riskPlays_lifted (os : Os) (started : os.Started) (H : Type) (enc : TypeId × Value → H) :
    ReturnsInHanded {} Try.checked os 7 .any (Rows.riskPlaysSpec.pre6 enc Try.prog Try.f7 Rows.riskPlaysRow.domain false) (Rows.riskPlaysSpec.post enc Try.prog Try.f7 false true false false) := by
  refine returnsInHanded_of_change (C := Try.checked) Try.own started (by kernel_rfl) Try.func7
    (ChangeSpec.witness6 (enc := enc) (C := Try.checked) false ⟨#[], #[.slice none 0 0, .int .i64 0, .slice none 0 0], []⟩ 8 (by kernel_rfl) (by kernel_rfl) (by kernel_rfl) (by kernel_rfl)) ?_
  intro W base args ds gs before hval0 hW hcnd _
  have hval : ∀ (j : Nat) t v, Try.f7.params[j]? = some t → args[j]? = some v → Value.okWide Try.prog W .any base t v := hval0
  have hW' := hW
  obtain ⟨p, q, hA0, hV, rfl, hfz, hnd⟩ := hW
  have hA : DataW.TrodAll enc Try.prog W 0 (fun _ => true) true Try.f7.params.toList args.toList ds p := hA0
  rw [Try.params7] at hA hval
  obtain ⟨v0, v1, v2, d0, d1, d2, p0, p1, p2, rfl, rfl, rfl, h0, h1, h2⟩ := trodAll_three hA
  obtain ⟨A0, n0, c0, x0, rfl, r0, l0, w0⟩ := openInts Try.underlying54 Try.underlying3 (by kernel_rfl) (hval 0 54 v0 rfl rfl) h0
  obtain ⟨x1, rfl, -, -, w1⟩ := open_int Try.underlying3 (hval 1 3 v1 rfl rfl) h1
  obtain ⟨A2, n2, c2, x2, rfl, r2, l2, w2⟩ := openStructs opCells (fun _ => True) Try.underlying55 Try.underlying57 (by kernel_rfl) (by kernel_rfl) (by decide) (fun _ => rfl) (opRead Try.underlying57 W) (hval 2 55 v2 rfl rfl) h2
  refine (riskPlays_walk W A0 n0 c0 x0 r0 l0 x1 A2 n2 c2 x2 r2 l2).mono fun e W' ⟨he, hb⟩ => ?_
  subst he
  exact ⟨_, rfl, law_post Try.laidOut Try.underlying4 (by kernel_rfl) rfl (by rw [Try.params7]; exact List.forall_mem_cons.2 ⟨⟨by kernel_rfl, of_decide_eq_true (by kernel_rfl)⟩, List.forall_mem_cons.2 ⟨⟨by kernel_rfl, of_decide_eq_true (by kernel_rfl)⟩, List.forall_mem_cons.2 ⟨⟨by kernel_rfl, of_decide_eq_true (by kernel_rfl)⟩, List.forall_mem_nil _⟩⟩⟩) hW' (fun hg => by subst hg; exact ⟨rfl, rfl, rfl⟩) hb⟩

theorem riskPlays_holds : Rows.RiskPlaysSaid :=
  OpenClaim.holds_of_wide 7 Try.f7 rfl rfl rfl rfl rfl rfl rfl ⟨rfl, rfl, rfl, rfl, rfl⟩ rfl rfl rfl rfl rfl (by kernel_rfl) Try.func7 (by kernel_rfl)
    (of_decide_eq_true (by kernel_rfl)) (by unfold Func.isWrapper; rw [if_neg (of_decide_eq_false (by kernel_rfl))]; exact ⟨rfl, rfl⟩)
    (fun os started H enc _ => riskPlays_lifted os started H enc)

#print axioms riskPlays_holds
end Go.Proofs.Yteggpdhkpmkldaa
