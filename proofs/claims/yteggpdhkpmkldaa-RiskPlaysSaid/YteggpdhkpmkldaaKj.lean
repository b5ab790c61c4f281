import Derived.Test.YteggpdhkpmkldaaKi
import Derived.Test.YteggpdhkpmkldaaKh
namespace Go.Proofs.Yteggpdhkpmkldaa
open Go.RowKit

def bUsed (ps : List Purse) (a : Int) : Int := if inB ps.length a = true then (pAt ps a).2.1 + (pAt ps a).2.2 else 0
def bReal (ps : List Purse) (a : Int) : Int := if inB ps.length a = true then (pAt ps a).2.2 else 0
def bLeft (ps : List Purse) (a : Int) : Int := if inB ps.length a = true then (pAt ps a).1 - (pAt ps a).2.1 - (pAt ps a).2.2 else 0
def bHeld (hs : List Hold) (s : Int) : Hold := if inB hs.length s = true then hAt hs s else hold0

section
variable {b gp gh cp : Nat} {ls : List Int} {ps : List Purse} {hs : List Hold}
theorem BkAt.acc0 {w : World} (h : BkAt w b gp gh cp ps hs) (a : Int) (ha : inB ps.length a = false) : Calls Try.prog 57 #[.pointer (some ⟨b, 0, none⟩), .int .i64 a] w fun e w' => e = .returned (.bool false) ∧ ∃ k, w' = w.drewN k := h.account_ a false ha 0
theorem kUsed_any (w : World) (a : Int) (h : BkAt w b gp gh cp ps hs) (hi : BInv ls ps hs) : Calls Try.prog 28 #[.pointer (some ⟨b, 0, none⟩), .int .i64 a] w fun e w' => e = .returned (.int .i64 (bUsed ps a)) ∧ ∃ k, w' = w.drewN k := by
  rcases inB_cases ps.length a with h1 | ⟨a, rfl, ha⟩
  · rw [show bUsed ps a = 0 from by unfold bUsed; rw [if_neg (by rw [h1]; simp)]]
    exact kUsed_out w _ a (h.acc0 a h1)
  · obtain ⟨p, hp⟩ : ∃ p, ps[a]? = some p := ⟨_, List.getElem?_eq_getElem ha⟩
    rw [show bUsed ps a = p.2.1 + p.2.2 from by unfold bUsed; rw [if_pos (inB_lt ha), pAt_of hp]]
    exact kUsed_in w b gp gh cp a ps hs p h hp (hi.hp a p hp).1
theorem kRealised_any (w : World) (a : Int) (h : BkAt w b gp gh cp ps hs) : Calls Try.prog 35 #[.pointer (some ⟨b, 0, none⟩), .int .i64 a] w fun e w' => e = .returned (.int .i64 (bReal ps a)) ∧ ∃ k, w' = w.drewN k := by
  rcases inB_cases ps.length a with h1 | ⟨a, rfl, ha⟩
  · rw [show bReal ps a = 0 from by unfold bReal; rw [if_neg (by rw [h1]; simp)]]
    exact kRealised_out w _ a (h.acc0 a h1)
  · obtain ⟨p, hp⟩ : ∃ p, ps[a]? = some p := ⟨_, List.getElem?_eq_getElem ha⟩
    rw [show bReal ps a = p.2.2 from by unfold bReal; rw [if_pos (inB_lt ha), pAt_of hp]]
    exact kRealised_in w b gp gh cp a ps hs p h hp
theorem kLeft_anyB (w : World) (a : Int) (h : BkAt w b gp gh cp ps hs) (hi : BInv ls ps hs) : Calls Try.prog 36 #[.pointer (some ⟨b, 0, none⟩), .int .i64 a] w fun e w' => e = .returned (.int .i64 (bLeft ps a)) ∧ Mods (fun _ => False) w w' := by
  rcases inB_cases ps.length a with h1 | ⟨a, rfl, ha⟩
  · rw [show bLeft ps a = 0 from by unfold bLeft; rw [if_neg (by rw [h1]; simp)]]
    exact (kLeft_out w _ a (h.acc0 a h1)).mono fun _ _ ⟨he, k, hw⟩ => ⟨he, by rw [hw]; exact (Mods.refl _ w).drewN k⟩
  · obtain ⟨p, hp⟩ : ∃ p, ps[a]? = some p := ⟨_, List.getElem?_eq_getElem ha⟩
    rw [show bLeft ps a = p.1 - p.2.1 - p.2.2 from by unfold bLeft; rw [if_pos (inB_lt ha), pAt_of hp]]
    exact kLeft_in w b gp gh cp a ps hs p h hp (hi.hp a p hp).1
theorem kHeld_any (w : World) (s : Int) (h : BkAt w b gp gh cp ps hs) : Calls Try.prog 33 #[.pointer (some ⟨b, 0, none⟩), .int .i64 s] w fun e w' => e = .returned (.tuple #[.int .i64 (bHeld hs s).2.1, .int .i64 (bHeld hs s).2.2, .bool (bHeld hs s).1]) ∧ Mods (fun _ => False) w w' := by
  rcases inB_cases hs.length s with h1 | ⟨s, rfl, hs'⟩
  · rw [show bHeld hs s = hold0 from by unfold bHeld; rw [if_neg (by rw [h1]; simp)]]
    exact (kHeld_out w _ s (h.slot_ s false h1 0)).mono fun _ _ ⟨he, k, hw⟩ => ⟨he, by rw [hw]; exact (Mods.refl _ w).drewN k⟩
  · obtain ⟨x, hx⟩ : ∃ x, hs[s]? = some x := ⟨_, List.getElem?_eq_getElem hs'⟩
    rw [show bHeld hs s = x from by unfold bHeld; rw [if_pos (inB_lt hs'), hAt_of hx]]
    exact kHeld_in w b gp gh cp s ps hs x h hx
end

theorem BInv.start {ls : List Int} {s : Nat} (h : ls.all inLim = true) : BInv ls (ls.map fun x => (x, 0, 0)) (List.replicate s hold0) := by
  refine ⟨by simp [Function.comp_def], ?_, ?_⟩
  · intro a p hp
    rw [List.getElem?_map] at hp
    cases hx : ls[a]? with
    | none => rw [hx] at hp; cases hp
    | some x =>
      rw [hx] at hp
      injection hp with hp
      subst hp
      have := List.all_eq_true.1 h x (List.mem_of_getElem? hx)
      unfold inLim at this
      simp at this
      refine ⟨⟨this.1, this.2, Int.le_refl _, Int.le_refl _, this.1⟩, ?_⟩
      show (0 : Int) = sumH (List.replicate s hold0) a
      induction s with
      | zero => rfl
      | succ s ih => rw [List.replicate_succ]; simp only [sumH, List.map_cons, List.sum_cons, wt_hold0] at *; omega
  · intro i x hx
    rw [List.getElem?_replicate] at hx
    split at hx
    · injection hx with hx; exact .inr hx.symm
    · cases hx
theorem BInv.len {ls : List Int} {ps : List Purse} {hs : List Hold} (h : BInv ls ps hs) : ps.length = ls.length := by rw [← h.hl, List.length_map]

/-- What is reserved and settled for nothing leaves what was. -/
theorem res_stl {ls : List Int} {ps ps1 : List Purse} {hs hs1 : List Hold} {a s n : Int} (hi : BInv ls ps hs) (h : bRes ps hs a s n = (0, ps1, hs1)) :
    (∃ c : Nat, a = c ∧ c < ps.length) ∧ bUsed ps1 a = bUsed ps a + n ∧ ∃ ps2 hs2, bStl ps1 hs1 s 0 = (0, ps2, hs2) ∧ ps2.length = ps.length ∧ ∀ i, bUsed ps2 i = bUsed ps i := by
  unfold bRes at h
  by_cases hg : inB ps.length a = true ∧ inB hs.length s = true ∧ inLim n = true
  · rw [if_pos hg] at h
    by_cases h0 : hAt hs s ≠ hold0
    · rw [if_pos h0] at h; injection h with h; omega
    rw [if_neg h0] at h
    by_cases hl : (pAt ps a).1 - (pAt ps a).2.1 - (pAt ps a).2.2 < n
    · rw [if_pos hl] at h; injection h with h; omega
    rw [if_neg hl] at h
    injection h with _ h
    injection h with h1 h2
    subst h1 h2
    obtain ⟨a, rfl, ha⟩ := inB_toNat hg.1
    obtain ⟨s, rfl, hs'⟩ := inB_toNat hg.2.1
    obtain ⟨p, hp⟩ : ∃ p, ps[a]? = some p := ⟨_, List.getElem?_eq_getElem ha⟩
    obtain ⟨x, hx⟩ : ∃ x, hs[s]? = some x := ⟨_, List.getElem?_eq_getElem hs'⟩
    have hn0 : 0 ≤ n := by have := hg.2.2; unfold inLim at this; simp at this; omega
    simp only [Int.toNat_natCast]
    rw [pAt_of hp]
    refine ⟨⟨a, rfl, ha⟩, ?_, (ps.set a (p.1, p.2.1 + n, p.2.2)).set a (p.1, p.2.1 + n - n, p.2.2 + 0), (hs.set s (true, (a : Int), n)).set s hold0, ?_, by simp, ?_⟩
    · unfold bUsed
      rw [List.length_set, if_pos (inB_lt ha), if_pos (inB_lt ha), pAt_of hp, pAt_of (get_set_self hp)]
      simp only
      omega
    · unfold bStl
      rw [List.length_set, if_pos ⟨inB_lt hs', Int.le_refl _⟩, hAt_of (get_set_self hx)]
      simp only [if_true]
      rw [if_neg (by omega), pAt_of (get_set_self hp)]
      rfl
    · intro i
      unfold bUsed
      rw [List.length_set, List.length_set]
      by_cases hib : inB ps.length i = true
      · rw [if_pos hib, if_pos hib]
        obtain ⟨i, rfl, hil⟩ := inB_toNat hib
        by_cases hia : i = a
        · subst hia
          rw [pAt_of (get_set_self (get_set_self hp)), pAt_of hp]
          simp only
          omega
        · obtain ⟨q, hq⟩ : ∃ q, ps[i]? = some q := ⟨_, List.getElem?_eq_getElem hil⟩
          have e : ((ps.set a (p.1, p.2.1 + n, p.2.2)).set a (p.1, p.2.1 + n - n, p.2.2 + 0))[i]? = some q := by
            rw [List.getElem?_set_ne (fun e => hia e.symm), List.getElem?_set_ne (fun e => hia e.symm)]; exact hq
          rw [pAt_of e, pAt_of hq]
      · rw [if_neg hib, if_neg hib]
  · rw [if_neg hg] at h; injection h with h; omega
theorem res_not {ps : List Purse} {hs : List Hold} {a s n : Int} (h : (bRes ps hs a s n).1 ≠ 0) : bRes ps hs a s n = ((bRes ps hs a s n).1, ps, hs) := by
  unfold bRes at *
  split
  · split
    · rfl
    · split
      · rfl
      · rename_i h1 h2 h3
        rw [if_pos h1, if_neg h2, if_neg h3] at h
        exact absurd rfl h
  · rfl

end Go.Proofs.Yteggpdhkpmkldaa
