import Derived.Test.YtjhlaifflhjafaaNh
namespace Go.Proofs.Ytjhlaifflhjafaa
open Go.RowKit

/-! What holds of the two sides goes on to hold. -/
theorem btr_asymm {side a b : Int} (h : btr side a b = true) : btr side b a = false := by
  unfold btr at *
  split at h <;> simp_all <;> omega
theorem meetL_ok (side : Int) (nm : ByteArray) (p od : Int) : ∀ (l : List Mo) (left : Int) (out : List Tr), 0 ≤ left → left ≤ 1099511627776 → Srt od l → (∀ x ∈ l, 1 ≤ x.left ∧ x.left ≤ 1099511627776) →
    (0 ≤ (meetL side nm p left l out).1 ∧ (meetL side nm p left l out).1 ≤ 1099511627776) ∧ Srt od (meetL side nm p left l out).2.1 ∧ (∀ x ∈ (meetL side nm p left l out).2.1, 1 ≤ x.left ∧ x.left ≤ 1099511627776) ∧ (meetL side nm p left l out).2.1.length ≤ l.length
  | [], left, out, h0, h1, hs, hb => ⟨⟨h0, h1⟩, hs, hb, Nat.le_refl _⟩
  | x :: l, left, out, h0, h1, hs, hb => by
    have hx := hb x (List.mem_cons_self ..)
    have hbl : ∀ y ∈ l, 1 ≤ y.left ∧ y.left ≤ 1099511627776 := fun y hy => hb y (List.mem_cons_of_mem _ hy)
    have hs2 := List.pairwise_cons.1 hs
    unfold meetL
    split
    · split
      · refine ⟨⟨by simp, by simp⟩, List.pairwise_cons.2 ⟨hs2.1, hs2.2⟩, fun y hy => ?_, Nat.le_refl _⟩
        rcases List.mem_cons.1 hy with rfl | hy
        · simp only; omega
        · exact hbl y hy
      · obtain ⟨a, b, c, d⟩ := meetL_ok side nm p od l (left - x.left) (out ++ [⟨x.id, nm, x.left, x.price⟩]) (by omega) (by omega) hs2.2 hbl
        exact ⟨a, b, c, Nat.le_succ_of_le d⟩
    · exact ⟨⟨h0, h1⟩, hs, hb, Nat.le_refl _⟩
theorem insM_srt {side : Int} {l : List Mo} (o : Mo) (h : Srt side l) : Srt side (insM side o l) := by
  unfold insM putAt Srt
  have hl : l = l.take (mPos side o.price l) ++ l.drop (mPos side o.price l) := (List.take_append_drop _ _).symm
  have hp := h
  unfold Srt at hp
  rw [hl] at hp
  obtain ⟨p1, p2, p3⟩ := List.pairwise_append.1 hp
  refine List.pairwise_append.2 ⟨p1, List.pairwise_cons.2 ⟨fun y hy => ?_, p2⟩, fun x hx y hy => ?_⟩
  · obtain ⟨j, hj⟩ := List.mem_iff_getElem?.1 hy
    rw [List.getElem?_drop] at hj
    exact btr_asymm (mPos_ge h (Nat.le_add_right _ _) hj)
  · rcases List.mem_cons.1 hy with rfl | hy
    · obtain ⟨j, hj⟩ := List.mem_iff_getElem?.1 hx
      rw [List.getElem?_take] at hj
      split at hj
      · rename_i hlt
        exact idxP_lt (fun x : Mo => btr side y.price x.price) hlt hj
      · cases hj
    · exact p3 x hx y hy
theorem insM_mem {side : Int} {l : List Mo} {o x : Mo} : x ∈ insM side o l ↔ x = o ∨ x ∈ l := mem_putAt
theorem insM_len {side : Int} {l : List Mo} {o : Mo} : (insM side o l).length = l.length + 1 := putAt_len (idxP_le _ _)
theorem MbOk.side {S : Sd} (h : MbOk S) (sd : Nat) : Srt ((sd + 1 : Nat) : Int) (S.at sd) ∨ 2 ≤ sd := by
  rcases sd with _ | _ | sd
  · exact .inl h.s1
  · exact .inl h.s2
  · right; omega
theorem MbOk.meet {S : Sd} (h : MbOk S) (sd : Nat) (hsd : sd = 0 ∨ sd = 1) (nm : ByteArray) (left p : Int) (h1 : 1 ≤ left) (h2 : left ≤ 1099511627776) :
    MbOk (meetM sd S nm left p).2 ∧ (meetM sd S nm left p).2.1.length + (meetM sd S nm left p).2.2.length ≤ S.1.length + S.2.length + 1 := by
  rcases hsd with rfl | rfl
  · obtain ⟨⟨a0, a1⟩, b, c, d⟩ := meetL_ok 1 nm p 2 S.2 left [] (by omega) h2 h.s2 h.b2
    unfold meetM
    show MbOk (if 0 < (meetL 1 nm p left S.2 []).1 then (insM 1 ⟨nm, (meetL 1 nm p left S.2 []).1, p⟩ S.1, (meetL 1 nm p left S.2 []).2.1) else (S.1, (meetL 1 nm p left S.2 []).2.1)) ∧ (if 0 < (meetL 1 nm p left S.2 []).1 then (insM 1 ⟨nm, (meetL 1 nm p left S.2 []).1, p⟩ S.1, (meetL 1 nm p left S.2 []).2.1) else (S.1, (meetL 1 nm p left S.2 []).2.1)).1.length + (if 0 < (meetL 1 nm p left S.2 []).1 then (insM 1 ⟨nm, (meetL 1 nm p left S.2 []).1, p⟩ S.1, (meetL 1 nm p left S.2 []).2.1) else (S.1, (meetL 1 nm p left S.2 []).2.1)).2.length ≤ _
    split
    · refine ⟨⟨insM_srt _ h.s1, b, fun x hx => ?_, c⟩, by simp only [insM_len]; omega⟩
      rcases insM_mem.1 hx with rfl | hx
      · simp only; omega
      · exact h.b1 x hx
    · exact ⟨⟨h.s1, b, h.b1, c⟩, by simp only; omega⟩
  · obtain ⟨⟨a0, a1⟩, b, c, d⟩ := meetL_ok 2 nm p 1 S.1 left [] (by omega) h2 h.s1 h.b1
    unfold meetM
    show MbOk (if 0 < (meetL 2 nm p left S.1 []).1 then ((meetL 2 nm p left S.1 []).2.1, insM 2 ⟨nm, (meetL 2 nm p left S.1 []).1, p⟩ S.2) else ((meetL 2 nm p left S.1 []).2.1, S.2)) ∧ (if 0 < (meetL 2 nm p left S.1 []).1 then ((meetL 2 nm p left S.1 []).2.1, insM 2 ⟨nm, (meetL 2 nm p left S.1 []).1, p⟩ S.2) else ((meetL 2 nm p left S.1 []).2.1, S.2)).1.length + (if 0 < (meetL 2 nm p left S.1 []).1 then ((meetL 2 nm p left S.1 []).2.1, insM 2 ⟨nm, (meetL 2 nm p left S.1 []).1, p⟩ S.2) else ((meetL 2 nm p left S.1 []).2.1, S.2)).2.length ≤ _
    split
    · refine ⟨⟨b, insM_srt _ h.s2, c, fun x hx => ?_⟩, by simp only [insM_len]; omega⟩
      rcases insM_mem.1 hx with rfl | hx
      · simp only; omega
      · exact h.b2 x hx
    · exact ⟨⟨b, h.s2, c, h.b2⟩, by simp only; omega⟩
theorem MbOk.add {S : Sd} (h : MbOk S) (hn : S.1.length + S.2.length ≤ 512) (id : ByteArray) (side qty price : Int) :
    MbOk (addM S id side qty price).2 ∧ (addM S id side qty price).2.1.length + (addM S id side qty price).2.2.length ≤ 512 := by
  unfold addM
  split
  · exact ⟨h, hn⟩
  · split
    · exact ⟨h, hn⟩
    · rename_i hok
      split
      · exact ⟨h, hn⟩
      · split
        · exact ⟨h, hn⟩
        · have hin := okB_iff.1 (by simpa using hok)
          have hm := h.meet (side.toNat - 1) (by omega) id qty price hin.2.1.1 hin.2.1.2
          exact ⟨hm.1, by have := hm.2; simp only; omega⟩
theorem MbOk.cut {S : Sd} (h : MbOk S) (sd k : Nat) (hsd : sd = 0 ∨ sd = 1) : MbOk (S.put sd (cutAt k (S.at sd))) := by
  rcases hsd with rfl | rfl
  · exact ⟨List.Pairwise.sublist (cut_sub _ _) h.s1, h.s2, fun x hx => h.b1 x ((cut_sub _ _).subset hx), h.b2⟩
  · exact ⟨h.s1, List.Pairwise.sublist (cut_sub _ _) h.s2, h.b1, fun x hx => h.b2 x ((cut_sub _ _).subset hx)⟩
theorem MbOk.can {S : Sd} (h : MbOk S) (id : ByteArray) : MbOk (canM S id).2 ∧ (canM S id).2.1.length + (canM S id).2.2.length ≤ S.1.length + S.2.length := by
  unfold canM
  split
  · exact ⟨h.cut 0 _ (.inl rfl), by have := cut_le (mIdx S.1 id) S.1; simp only [Sd.put]; simp; omega⟩
  · split
    · exact ⟨h.cut 1 _ (.inr rfl), by have := cut_le (mIdx S.2 id) S.2; simp only [Sd.put]; simp; omega⟩
    · exact ⟨h, Nat.le_refl _⟩
theorem srt_set {side : Int} {l : List Mo} (h : Srt side l) (k : Nat) (o : Mo) (ho : l[k]? = some o) (v : Int) : Srt side (l.set k { o with left := v }) := by
  unfold Srt at *
  have e : (l.set k { o with left := v }).map (·.price) = l.map (·.price) := by
    rw [List.map_set]
    apply List.ext_getElem?
    intro i
    rw [List.getElem?_set]
    split
    · rename_i hi
      subst hi
      split
      · rw [List.getElem?_map, ho]; rfl
      · rename_i hlt
        rw [List.getElem?_eq_none (by simpa using hlt)]
    · rfl
  have h2 : (l.map (·.price)).Pairwise fun a b => btr side b a = false := List.pairwise_map.2 h
  rw [← e] at h2
  exact List.pairwise_map.1 h2
theorem MbOk.set {S : Sd} (h : MbOk S) (sd k : Nat) (hsd : sd = 0 ∨ sd = 1) (o : Mo) (ho : (S.at sd)[k]? = some o) (v : Int) (h1 : 1 ≤ v) (h2 : v ≤ 1099511627776) : MbOk (S.put sd ((S.at sd).set k { o with left := v })) := by
  rcases hsd with rfl | rfl
  · refine ⟨srt_set h.s1 k o ho v, h.s2, fun x hx => ?_, h.b2⟩
    rcases List.mem_or_eq_of_mem_set hx with hx | rfl
    · exact h.b1 x hx
    · exact ⟨h1, h2⟩
  · refine ⟨h.s1, srt_set h.s2 k o ho v, h.b1, fun x hx => ?_⟩
    rcases List.mem_or_eq_of_mem_set hx with hx | rfl
    · exact h.b2 x hx
    · exact ⟨h1, h2⟩
theorem MbOk.repAt {S : Sd} (h : MbOk S) (sd k : Nat) (hsd : sd = 0 ∨ sd = 1) (o : Mo) (ho : (S.at sd)[k]? = some o) (id : ByteArray) (qty price : Int) :
    MbOk (repAt S sd k o id qty price).2 ∧ (Go.Proofs.Ytjhlaifflhjafaa.repAt S sd k o id qty price).2.1.length + (Go.Proofs.Ytjhlaifflhjafaa.repAt S sd k o id qty price).2.2.length ≤ S.1.length + S.2.length := by
  unfold Go.Proofs.Ytjhlaifflhjafaa.repAt
  split
  · exact ⟨h, Nat.le_refl _⟩
  · rename_i hb
    have hb2 : (inB qty 1 1099511627776 && inB price 1 1099511627776) = true := by simpa using hb
    rw [Bool.and_eq_true] at hb2
    have hq := inB_iff.1 hb2.1
    split
    · refine ⟨h.set sd k hsd o ho qty hq.1 hq.2, ?_⟩
      rcases hsd with rfl | rfl <;> simp [Sd.put, Sd.at]
    · have hk := (List.getElem?_eq_some_iff.1 ho).1
      have hm := (h.cut sd k hsd).meet sd hsd id qty price hq.1 hq.2
      refine ⟨hm.1, ?_⟩
      have h2 := hm.2
      have hc := cutAt_len hk
      rcases hsd with rfl | rfl
      · simp [Sd.put, Sd.at] at h2 hc hk ⊢; omega
      · simp [Sd.put, Sd.at] at h2 hc hk ⊢; omega
theorem MbOk.rep {S : Sd} (h : MbOk S) (id : ByteArray) (qty price : Int) : MbOk (repM S id qty price).2 ∧ (repM S id qty price).2.1.length + (repM S id qty price).2.2.length ≤ S.1.length + S.2.length := by
  unfold repM
  split
  · rename_i o ho
    exact h.repAt 0 _ (.inl rfl) o ho id qty price
  · split
    · rename_i o ho
      exact h.repAt 1 _ (.inr rfl) o ho id qty price
    · exact ⟨h, Nat.le_refl _⟩
theorem MbOk.empty : MbOk ([], []) := ⟨List.Pairwise.nil, List.Pairwise.nil, fun _ h => (by cases h), fun _ h => (by cases h)⟩

end Go.Proofs.Ytjhlaifflhjafaa
