import Derived.Test.YtjhlaifflhjafaaNv
namespace Go.Proofs.Ytjhlaifflhjafaa
open Go.RowKit

theorem mIdx_id {l : List Mo} {id : ByteArray} {o : Mo} (h : l[mIdx l id]? = some o) : o.id = id := eqB_iff.1 (idxP_at (fun o : Mo => eqB id o.id) h)
theorem mIdx_none {l : List Mo} {id : ByteArray} (h : l[mIdx l id]? = none) : ¬ id ∈ l.map (·.id) := by
  intro hm
  obtain ⟨x, hx, rfl⟩ := List.mem_map.1 hm
  obtain ⟨j, hj⟩ := List.mem_iff_getElem?.1 hx
  have hl := idxP_le (fun o : Mo => eqB x.id o.id) l
  have hn : l.length ≤ mIdx l x.id := List.getElem?_eq_none_iff.1 h
  have hjl := (List.getElem?_eq_some_iff.1 hj).1
  have := idxP_lt (fun o : Mo => eqB x.id o.id) (l := l) (j := j) (x := x) (by unfold mIdx at hn; omega) hj
  rw [eqB_iff.2 rfl] at this
  cases this
theorem foundB_not {S : Sd} {id : ByteArray} (h : foundB S id = false) : ¬ id ∈ idsS S := by
  unfold foundB at h
  rcases find_cases S id with ⟨o, h0, hf⟩ | ⟨o, h0, h1, hf⟩ | ⟨h0, h1, hf⟩
  · rw [hf] at h; simp at h
  · rw [hf] at h; simp at h
  · intro hm
    rcases List.mem_append.1 hm with hm | hm
    · exact mIdx_none h0 hm
    · exact mIdx_none h1 hm
theorem cut_ids {l : List Mo} {k : Nat} {o : Mo} (h : l[k]? = some o) : (l.map (·.id)).Perm (o.id :: (cutAt k l).map (·.id)) := by
  have hs := split_at h
  have hp : l.Perm (o :: cutAt k l) := by
    conv => lhs; rw [hs]
    exact List.perm_middle
  exact hp.map _
theorem KpI.cut {S : Sd} {l : SlO} (h : KpI S l) (sd k : Nat) (hsd : sd = 0 ∨ sd = 1) (o : Mo) (ho : (S.at sd)[k]? = some o) : KpI (S.put sd (cutAt k (S.at sd))) l ∧ ¬ o.id ∈ idsS (S.put sd (cutAt k (S.at sd))) := by
  have hi := h.i.cut sd k hsd
  rcases hsd with rfl | rfl
  · have hp : (idsS S).Perm (o.id :: idsS (cutAt k S.1, S.2)) := (cut_ids ho).append_right _
    have hn := hp.nodup h.u
    obtain ⟨h1, h2⟩ := List.nodup_cons.1 hn
    exact ⟨⟨hi, h2, fun x hx => h.l1 x ((cut_sub _ _).subset hx), h.l2⟩, h1⟩
  · have hp : (idsS S).Perm (o.id :: idsS (S.1, cutAt k S.2)) := ((cut_ids ho).append_left _).trans List.perm_middle
    have hn := hp.nodup h.u
    obtain ⟨h1, h2⟩ := List.nodup_cons.1 hn
    exact ⟨⟨hi, h2, h.l1, fun x hx => h.l2 x ((cut_sub _ _).subset hx)⟩, h1⟩
/-- What the law asks of a trade. -/
def TrK (l : SlO) (nm : ByteArray) (t : Tr) : Prop :=
  t.taker = nm ∧ 1 ≤ t.qty ∧ (lookVO l t.maker).sd ≠ (lookVO l nm).sd ∧ goodB (lookVO l t.maker).sd (lookVO l t.maker).pr t.price = true ∧ goodB (lookVO l nm).sd (lookVO l nm).pr t.price = true ∧ t.price = (lookVO l t.maker).pr
theorem lookVO_of {l : SlO} {k : ByteArray} {o : Lo} (h : lookO l k = some o) : lookVO l k = o := by unfold lookVO; rw [h]; rfl
theorem KpI.trades {S : Sd} {l : SlO} (h : KpI S l) (sd : Nat) (hsd : sd = 0 ∨ sd = 1) (nm : ByteArray) (hnm : ¬ nm ∈ idsS S) (kd left p : Int) (h1 : 1 ≤ left) (h2 : left ≤ 1099511627776) :
    ∀ t ∈ (meetM sd S nm left p).1, TrK (putO l nm ⟨kd, nm, ((sd + 1 : Nat) : Int), left, p⟩) nm t := by
  intro t ht
  obtain ⟨a, b, c, x, hx, d1, d2⟩ := (meetM_sum sd hsd h.i.ok nm left p h1 h2).2.2.2 t ht
  have hself := lookVO_of (lookO_put_same l nm ⟨kd, nm, ((sd + 1 : Nat) : Int), left, p⟩)
  rcases hsd with rfl | rfl
  · have hne : x.id ≠ nm := fun e => hnm (by unfold idsS; exact List.mem_append_right _ (e ▸ List.mem_map_of_mem hx))
    obtain ⟨o, ho, e1, e2⟩ := h.l2 x hx
    have hm := lookVO_of ((lookO_put_other l nm x.id ⟨kd, nm, ((0 + 1 : Nat) : Int), left, p⟩ hne).trans ho)
    rw [d1] at hm
    refine ⟨a, b, ?_, ?_, ?_, ?_⟩
    · rw [hm, hself, e1]; simp
    · rw [hm, e1, e2, d2]; simp [goodB]
    · rw [hself]; exact c
    · rw [hm, e2, d2]
  · have hne : x.id ≠ nm := fun e => hnm (by unfold idsS; exact List.mem_append_left _ (e ▸ List.mem_map_of_mem hx))
    obtain ⟨o, ho, e1, e2⟩ := h.l1 x hx
    have hm := lookVO_of ((lookO_put_other l nm x.id ⟨kd, nm, ((1 + 1 : Nat) : Int), left, p⟩ hne).trans ho)
    rw [d1] at hm
    refine ⟨a, b, ?_, ?_, ?_, ?_⟩
    · rw [hm, hself, e1]; simp
    · rw [hm, e1, e2, d2]; simp [goodB]
    · rw [hself]; exact c
    · rw [hm, e2, d2]

end Go.Proofs.Ytjhlaifflhjafaa
