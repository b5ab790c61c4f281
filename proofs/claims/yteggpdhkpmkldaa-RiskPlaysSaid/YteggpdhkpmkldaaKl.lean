import Derived.Test.YteggpdhkpmkldaaKk
namespace Go.Proofs.Yteggpdhkpmkldaa
open Go.RowKit

def bStep (ps : List Purse) (hs : List Hold) (o : Op4) : BSt :=
  if o.1 = 1 then bRes ps hs o.2.1 o.2.2.1 o.2.2.2 else if o.1 = 2 then bRsz ps hs o.2.2.1 o.2.2.2 else if o.1 = 3 then bStl ps hs o.2.2.1 o.2.2.2 else if o.1 = 4 then bUnd ps hs o.2.1 o.2.2.2 else (0, ps, hs)
/-- For whom an op is. -/
def whoB (hs : List Hold) (o : Op4) : Int := if o.1 = 2 ∨ o.1 = 3 then (bHeld hs o.2.2.1).2.1 else o.2.1

theorem bUsed_set_ne (ps : List Purse) (q : Purse) (c : Nat) (i : Int) (h : i ≠ c) : bUsed (ps.set c q) i = bUsed ps i := by
  unfold bUsed
  rw [List.length_set]
  by_cases hib : inB ps.length i = true
  · rw [if_pos hib, if_pos hib]
    obtain ⟨i, rfl, hil⟩ := inB_toNat hib
    obtain ⟨r, hr⟩ : ∃ r, ps[i]? = some r := ⟨_, List.getElem?_eq_getElem hil⟩
    have e : (ps.set c q)[i]? = some r := by rw [List.getElem?_set_ne (fun e => h (by rw [e]))]; exact hr
    rw [pAt_of e, pAt_of hr]
  · rw [if_neg hib, if_neg hib]
section
variable {ls : List Int} {ps : List Purse} {hs : List Hold}
theorem res_other (a s n i : Int) (h : i ≠ a) : bUsed (bRes ps hs a s n).2.1 i = bUsed ps i := by
  unfold bRes
  split
  · rename_i hg
    obtain ⟨c, rfl, hc⟩ := inB_toNat hg.1
    split
    · rfl
    · split
      · rfl
      · exact bUsed_set_ne ps _ c i h
  · rfl
theorem und_other (a n i : Int) (h : i ≠ a) : bUsed (bUnd ps hs a n).2.1 i = bUsed ps i := by
  unfold bUnd
  split
  · rename_i hg
    obtain ⟨c, rfl, hc⟩ := inB_toNat hg.1
    exact bUsed_set_ne ps _ c i h
  · rfl
theorem held_who (hi : BInv ls ps hs) {s : Nat} (hs' : s < hs.length) (ht : (hAt hs s).1 = true) : ∃ c : Nat, (hAt hs s).2.1 = c := by
  obtain ⟨x, hx⟩ : ∃ x, hs[s]? = some x := ⟨_, List.getElem?_eq_getElem hs'⟩
  rw [hAt_of hx] at ht ⊢
  rcases hi.hh s x hx with ⟨_, c, h2, _, _⟩ | rfl
  · exact ⟨c, h2⟩
  · simp [hold0] at ht
theorem rsz_other (hi : BInv ls ps hs) (s n i : Int) (h : i ≠ (bHeld hs s).2.1) : bUsed (bRsz ps hs s n).2.1 i = bUsed ps i := by
  unfold bRsz
  split
  · rename_i hg
    unfold bHeld at h
    rw [if_pos hg.1] at h
    obtain ⟨s, rfl, hs'⟩ := inB_toNat hg.1
    split
    · rename_i ht
      obtain ⟨c, hc⟩ := held_who hi hs' ht
      simp only
      split
      · rfl
      · rw [hc] at h ⊢
        exact bUsed_set_ne ps _ c i h
    · rfl
  · rfl
theorem stl_other (hi : BInv ls ps hs) (s n i : Int) (h : i ≠ (bHeld hs s).2.1) : bUsed (bStl ps hs s n).2.1 i = bUsed ps i := by
  unfold bStl
  split
  · rename_i hg
    unfold bHeld at h
    rw [if_pos hg.1] at h
    obtain ⟨s, rfl, hs'⟩ := inB_toNat hg.1
    split
    · rename_i ht
      obtain ⟨c, hc⟩ := held_who hi hs' ht
      simp only
      split
      · rfl
      · rw [hc] at h ⊢
        exact bUsed_set_ne ps _ c i h
    · rfl
  · rfl
theorem step_other (hi : BInv ls ps hs) (o : Op4) (i : Int) (h : i ≠ whoB hs o) : bUsed (bStep ps hs o).2.1 i = bUsed ps i := by
  unfold whoB at h
  unfold bStep
  split
  · rename_i h1; rw [if_neg (by omega)] at h; exact res_other _ _ _ _ h
  · split
    · rename_i h1 h2; rw [if_pos (by omega)] at h; exact rsz_other hi _ _ _ h
    · split
      · rename_i h1 h2 h3; rw [if_pos (by omega)] at h; exact stl_other hi _ _ _ h
      · split
        · rename_i h1 h2 h3 h4; rw [if_neg (by omega)] at h; exact und_other _ _ _ h
        · rfl
theorem step_len (o : Op4) : (bStep ps hs o).2.2.length = hs.length := by
  unfold bStep bRes bRsz bStl bUnd
  (repeat' (first | split | (dsimp only; split))) <;> simp

theorem used_eq (hi : BInv ls ps hs) {a : Nat} (ha : a < ps.length) : bUsed ps a = bReal ps a + sumH hs a ∧ 0 ≤ bReal ps a := by
  obtain ⟨p, hp⟩ : ∃ p, ps[a]? = some p := ⟨_, List.getElem?_eq_getElem ha⟩
  obtain ⟨⟨o1, o2, o3, o4, o5⟩, o6⟩ := hi.hp a p hp
  unfold bUsed bReal
  rw [if_pos (inB_lt ha), if_pos (inB_lt ha), pAt_of hp]
  omega
theorem used_lim (hi : BInv ls ps hs) {a : Nat} {x : Int} (hx : ls[a]? = some x) : bUsed ps a ≤ x ∧ bLeft ps a = x - bUsed ps a ∧ 0 ≤ x ∧ x ≤ 4611686018427387904 := by
  have ha : a < ps.length := by rw [hi.len]; exact (List.getElem?_eq_some_iff.1 hx).1
  obtain ⟨p, hp⟩ : ∃ p, ps[a]? = some p := ⟨_, List.getElem?_eq_getElem ha⟩
  obtain ⟨⟨o1, o2, o3, o4, o5⟩, o6⟩ := hi.hp a p hp
  have h1 := hi.hl
  rw [← h1, List.getElem?_map, hp] at hx
  injection hx with hx
  subst hx
  unfold bUsed bLeft
  rw [if_pos (inB_lt ha), if_pos (inB_lt ha), pAt_of hp]
  simp only
  omega
def sumTo (hs : List Hold) (a : Int) (k : Nat) : Int := sumH (hs.take k) a
theorem sumTo_succ {k : Nat} {x : Hold} (a : Int) (hx : hs[k]? = some x) : sumTo hs a (k + 1) = sumTo hs a k + wt a x := by
  unfold sumTo sumH
  rw [List.take_add_one, hx, List.map_append, List.sum_append]
  simp
theorem sumH_nonneg (a : Int) (h : ∀ y ∈ hs, 0 ≤ wt a y) : 0 ≤ sumH hs a := by
  induction hs with
  | nil => simp [sumH]
  | cons y hs ih =>
    have := ih (fun z hz => h z (by simp [hz]))
    have := h y (by simp)
    simp [sumH] at *
    omega
theorem sumTo_le (hi : BInv ls ps hs) (a : Int) (k : Nat) : 0 ≤ sumTo hs a k ∧ sumTo hs a k ≤ sumH hs a := by
  have hn := hi.nonneg a
  have h1 := sumH_nonneg (hs := hs.take k) a (fun y hy => hn y (List.mem_of_mem_take hy))
  have h2 := sumH_nonneg (hs := hs.drop k) a (fun y hy => hn y (List.mem_of_mem_drop hy))
  refine ⟨h1, ?_⟩
  have e : sumH hs a = sumH (hs.take k) a + sumH (hs.drop k) a := by
    unfold sumH
    rw [← List.sum_append, ← List.map_append, List.take_append_drop]
  unfold sumTo
  omega
theorem sumTo_all (a : Int) {k : Nat} (h : hs.length ≤ k) : sumTo hs a k = sumH hs a := by
  unfold sumTo; rw [List.take_of_length_le h]
end

end Go.Proofs.Yteggpdhkpmkldaa
