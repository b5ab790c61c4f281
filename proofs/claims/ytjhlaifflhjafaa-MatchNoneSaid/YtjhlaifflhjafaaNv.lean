import Derived.Test.YtjhlaifflhjafaaNu
namespace Go.Proofs.Ytjhlaifflhjafaa
open Go.RowKit

/-! MatchKeeps, the plain law: who rests where, and the limits. -/
def idsS (S : Sd) : List ByteArray := S.1.map (·.id) ++ S.2.map (·.id)
theorem meetL_ids (side : Int) (nm : ByteArray) (p : Int) : ∀ (l : List Mo) (left : Int) (out : List Tr), ((meetL side nm p left l out).2.1.map (·.id)).Sublist (l.map (·.id))
  | [], left, out => by simp [meetL]
  | x :: l, left, out => by
    unfold meetL
    split
    · split
      · simp
      · exact (meetL_ids side nm p l _ _).trans (by simp)
    · simp
theorem meetL_same (side : Int) (nm : ByteArray) (p : Int) : ∀ (l : List Mo) (left : Int) (out : List Tr), ∀ x ∈ (meetL side nm p left l out).2.1, ∃ y ∈ l, y.id = x.id ∧ y.price = x.price
  | [], left, out, x, hx => by cases hx
  | a :: l, left, out, x, hx => by
    unfold meetL at hx
    split at hx
    · split at hx
      · rcases List.mem_cons.1 hx with rfl | hx
        · exact ⟨a, List.mem_cons_self .., rfl, rfl⟩
        · exact ⟨x, List.mem_cons_of_mem _ hx, rfl, rfl⟩
      · obtain ⟨y, hy, he⟩ := meetL_same side nm p l _ _ x hx
        exact ⟨y, List.mem_cons_of_mem _ hy, he⟩
    · exact ⟨x, hx, rfl, rfl⟩
theorem insM_ids (side : Int) (o : Mo) (l : List Mo) : ((insM side o l).map (·.id)).Perm (o.id :: l.map (·.id)) := by
  unfold insM putAt
  have h : (l.take (mPos side o.price l) ++ o :: l.drop (mPos side o.price l)).Perm (o :: (l.take (mPos side o.price l) ++ l.drop (mPos side o.price l))) := List.perm_middle
  rw [List.take_append_drop] at h
  exact h.map _
/-- Where somebody rests there is a limit. -/
def LimI (side : Int) (l : SlO) (L : List Mo) : Prop := ∀ x ∈ L, ∃ o, lookO l x.id = some o ∧ o.sd = side ∧ o.pr = x.price
structure KpI (S : Sd) (l : SlO) : Prop where
  i : MbI S
  u : (idsS S).Nodup
  l1 : LimI 1 l S.1
  l2 : LimI 2 l S.2
theorem KpI.empty : KpI ([], []) [] := ⟨MbI.empty, List.nodup_nil, fun _ h => (by cases h), fun _ h => (by cases h)⟩
theorem LimI.put {side : Int} {l : SlO} {L : List Mo} (h : LimI side l L) (k : ByteArray) (o : Lo) (hk : ∀ x ∈ L, x.id ≠ k) : LimI side (putO l k o) L := fun x hx => by
  rw [lookO_put_other _ _ _ _ (hk x hx)]
  exact h x hx
/-- An order that rests nowhere meets: all is kept. -/
theorem KpI.meet {S : Sd} {l : SlO} (h : KpI S l) (sd : Nat) (hsd : sd = 0 ∨ sd = 1) (nm : ByteArray) (hnm : ¬ nm ∈ idsS S) (kd left p : Int) (h1 : 1 ≤ left) (h2 : left ≤ 1099511627776) (hp : 1 ≤ p ∧ p ≤ 1099511627776) (hn : S.1.length + S.2.length < 512) :
    KpI (meetM sd S nm left p).2 (putO l nm ⟨kd, nm, ((sd + 1 : Nat) : Int), left, p⟩) := by
  have hi := h.i.meet sd hsd nm left p h1 h2 hp hn
  have hn1 : ∀ x ∈ S.1, x.id ≠ nm := fun x hx e => hnm (by unfold idsS; exact List.mem_append_left _ (e ▸ List.mem_map_of_mem hx))
  have hn2 : ∀ x ∈ S.2, x.id ≠ nm := fun x hx e => hnm (by unfold idsS; exact List.mem_append_right _ (e ▸ List.mem_map_of_mem hx))
  have hnd : (nm :: idsS S).Nodup := List.nodup_cons.2 ⟨hnm, h.u⟩
  have hself : lookO (putO l nm ⟨kd, nm, ((sd + 1 : Nat) : Int), left, p⟩) nm = some ⟨kd, nm, ((sd + 1 : Nat) : Int), left, p⟩ := lookO_put_same _ _ _
  rcases hsd with rfl | rfl
  · have hs := meetL_ids 1 nm p S.2 left []
    have hm := meetL_same 1 nm p S.2 left []
    have e : (meetM 0 S nm left p).2 = if 0 < (meetL 1 nm p left S.2 []).1 then (insM 1 ⟨nm, (meetL 1 nm p left S.2 []).1, p⟩ S.1, (meetL 1 nm p left S.2 []).2.1) else (S.1, (meetL 1 nm p left S.2 []).2.1) := rfl
    rw [e] at hi ⊢
    generalize meetL 1 nm p left S.2 [] = R at *
    have hl2 : LimI 2 (putO l nm ⟨kd, nm, ((0 + 1 : Nat) : Int), left, p⟩) R.2.1 := fun x hx => by
      obtain ⟨y, hy, e1, e2⟩ := hm x hx
      have := h.l2.put nm ⟨kd, nm, ((0 + 1 : Nat) : Int), left, p⟩ hn2 y hy
      rwa [e1, e2] at this
    split
    · rename_i h0
      rw [if_pos h0] at hi
      refine ⟨hi, ?_, fun x hx => ?_, hl2⟩
      · have hp1 : (idsS (insM 1 ⟨nm, R.1, p⟩ S.1, R.2.1)).Perm ((nm :: S.1.map (·.id)) ++ R.2.1.map (·.id)) := (insM_ids 1 ⟨nm, R.1, p⟩ S.1).append_right _
        exact hp1.symm.nodup (List.Pairwise.sublist ((List.Sublist.refl _).append hs) hnd)
      · rcases insM_mem.1 hx with rfl | hx
        · exact ⟨_, hself, rfl, rfl⟩
        · exact h.l1.put nm _ hn1 x hx
    · rename_i h0
      rw [if_neg h0] at hi
      exact ⟨hi, List.Pairwise.sublist ((List.Sublist.refl _).append hs) h.u, h.l1.put nm _ hn1, hl2⟩
  · have hs := meetL_ids 2 nm p S.1 left []
    have hm := meetL_same 2 nm p S.1 left []
    have e : (meetM 1 S nm left p).2 = if 0 < (meetL 2 nm p left S.1 []).1 then ((meetL 2 nm p left S.1 []).2.1, insM 2 ⟨nm, (meetL 2 nm p left S.1 []).1, p⟩ S.2) else ((meetL 2 nm p left S.1 []).2.1, S.2) := rfl
    rw [e] at hi ⊢
    generalize meetL 2 nm p left S.1 [] = R at *
    have hl1 : LimI 1 (putO l nm ⟨kd, nm, ((1 + 1 : Nat) : Int), left, p⟩) R.2.1 := fun x hx => by
      obtain ⟨y, hy, e1, e2⟩ := hm x hx
      have := h.l1.put nm ⟨kd, nm, ((1 + 1 : Nat) : Int), left, p⟩ hn1 y hy
      rwa [e1, e2] at this
    split
    · rename_i h0
      rw [if_pos h0] at hi
      refine ⟨hi, ?_, hl1, fun x hx => ?_⟩
      · have hp1 : (idsS (R.2.1, insM 2 ⟨nm, R.1, p⟩ S.2)).Perm (nm :: (R.2.1.map (·.id) ++ S.2.map (·.id))) := ((insM_ids 2 ⟨nm, R.1, p⟩ S.2).append_left _).trans List.perm_middle
        exact hp1.symm.nodup (List.Pairwise.sublist ((hs.append (List.Sublist.refl _)).cons_cons nm) hnd)
      · rcases insM_mem.1 hx with rfl | hx
        · exact ⟨_, hself, rfl, rfl⟩
        · exact h.l2.put nm _ hn2 x hx
    · rename_i h0
      rw [if_neg h0] at hi
      exact ⟨hi, List.Pairwise.sublist (hs.append (List.Sublist.refl _)) h.u, hl1, h.l2.put nm _ hn2⟩

end Go.Proofs.Ytjhlaifflhjafaa
