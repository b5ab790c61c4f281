import Derived.Test.YtjhlaifflhjafaaXg
namespace Go.Proofs.Ytjhlaifflhjafaa
open Go.RowKit

/-! The plain law of the child. -/
def csum (c : Ch) : Int := c.cum + clm c
/-- What a step does to what is executed and may still be. -/
structure Law (c : Ch) (r : Int × Ch) : Prop where
  inv : CInv r.2
  le : csum r.2 ≤ csum c
  eq : r.1 ≠ 0 → csum r.2 = csum c

theorem law_same (c : Ch) (hi : CInv c) (k : Int) : Law c (k, c) := ⟨hi, Int.le_refl _, fun _ => rfl⟩

theorem st_cases {s : Int} (h1 : 1 ≤ s) (h2 : s ≤ 8) : s = 1 ∨ s = 2 ∨ s = 3 ∨ s = 4 ∨ s = 5 ∨ s = 6 ∨ s = 7 ∨ s = 8 := by omega
theorem nx_eq (s e x : Int) (h1 : 1 ≤ s) (h2 : s ≤ 8) (h3 : 1 ≤ e) (h4 : e ≤ 10) (h5 : 0 ≤ x) : nx s e x = nt (toT s e) s x := nx_in h1 h2 h3 h4 h5

set_option maxHeartbeats 4000000 in
theorem law_now (c : Ch) (hi : CInv c) (e : Int) (he : e = 1 ∨ e = 2 ∨ e = 4 ∨ e = 9) : Law c (cNow c e) := by
  obtain ⟨id, ve, sd, st, q, p, nq, np, cum⟩ := c
  obtain ⟨h1, h2, h3, h4, h5, h6, h7, h8, h9⟩ := hi
  simp only at *
  have hn : nx st e cum = nt (toT st e) st cum := nx_in h1 h2 (by omega) (by omega) h3
  rcases st_cases h1 h2 with rfl | rfl | rfl | rfl | rfl | rfl | rfl | rfl <;> rcases he with rfl | rfl | rfl | rfl <;>
    (simp [toT, rowT, nt] at hn
     unfold cNow cEv
     simp only [hn]
     refine ⟨?_, ?_, ?_⟩
     · constructor <;> simp [cDone] <;> omega
     · simp [csum, clm, cDone] <;> omega
     · simp [csum, clm, cDone])

theorem law_refused (c : Ch) (hi : CInv c) : Law c (cRefused c) := by
  obtain ⟨id, ve, sd, st, q, p, nq, np, cum⟩ := c
  obtain ⟨h1, h2, h3, h4, h5, h6, h7, h8, h9⟩ := hi
  simp only at *
  have hn : nx st 8 cum = nt (toT st 8) st cum := nx_in h1 h2 (by omega) (by omega) h3
  rcases st_cases h1 h2 with rfl | rfl | rfl | rfl | rfl | rfl | rfl | rfl <;> by_cases h0 : 0 < cum <;> by_cases hq : q ≤ cum <;>
    (simp [toT, rowT, nt, h0] at hn
     unfold cRefused cNow cEv
     simp only [hn]
     refine ⟨?_, ?_, ?_⟩
     · constructor <;> simp [cDone, cSettle, hq] <;> omega
     · simp [csum, clm, cDone, cSettle, hq] <;> (try split) <;> omega
     · simp [csum, clm, cDone, cSettle, hq])

theorem law_replaced (c : Ch) (hi : CInv c) : Law c (cReplaced c) := by
  obtain ⟨id, ve, sd, st, q, p, nq, np, cum⟩ := c
  obtain ⟨h1, h2, h3, h4, h5, h6, h7, h8, h9⟩ := hi
  simp only at *
  have hn : nx st 3 cum = nt (toT st 3) st cum := nx_in h1 h2 (by omega) (by omega) h3
  rcases st_cases h1 h2 with rfl | rfl | rfl | rfl | rfl | rfl | rfl | rfl <;> by_cases h0 : 0 < cum <;> by_cases hq : nq ≤ cum <;>
    (simp [toT, rowT, nt, h0] at hn
     unfold cReplaced cNow cEv
     simp only [hn]
     refine ⟨?_, ?_, ?_⟩
     · constructor <;> simp [cDone, cSettle, hq] <;> omega
     · simp [csum, clm, cDone, cSettle, hq] <;> (try split) <;> omega
     · simp [csum, clm, cDone, cSettle, hq])

theorem law_bust (c : Ch) (hi : CInv c) (qty : Int) : Law c (cBust c qty) := by
  by_cases hk : qty < 1 ∨ c.cum < qty
  · unfold cBust; rw [if_pos hk]; exact law_same c hi 2
  obtain ⟨id, ve, sd, st, q, p, nq, np, cum⟩ := c
  obtain ⟨h1, h2, h3, h4, h5, h6, h7, h8, h9⟩ := hi
  simp only at *
  have hn : nx st 7 (cum - qty) = nt (toT st 7) st (cum - qty) := nx_in h1 h2 (by omega) (by omega) (by omega)
  rcases st_cases h1 h2 with rfl | rfl | rfl | rfl | rfl | rfl | rfl | rfl <;> by_cases h0 : qty < cum <;>
    (simp [toT, rowT, nt, h0] at hn
     unfold cBust cEv
     simp only [hn, if_neg hk]
     refine ⟨?_, ?_, ?_⟩
     · constructor <;> simp [cDone, bust1] <;> omega
     · simp [csum, clm, cDone, bust1] <;> (try split) <;> (try split) <;> omega
     · simp [csum, clm, cDone, bust1])

theorem law_trade (c : Ch) (hi : CInv c) (qty : Int) : Law c (cTrade c qty) := by
  by_cases hk : qty < 1
  · unfold cTrade; rw [if_pos hk]; exact law_same c hi 2
  by_cases ho : ¬ (1 ≤ c.st ∧ c.st ≤ 5)
  · unfold cTrade; rw [if_neg hk, if_pos ho]; exact law_same c hi 200
  by_cases hl : clm c < qty
  · unfold cTrade; rw [if_neg hk, if_neg ho, if_pos hl]; exact law_same c hi 3
  have hd : cTrade c qty = cEv { c with cum := c.cum + qty } (if qty = clm c then 6 else 5) (c.cum + qty) := by
    unfold cTrade; rw [if_neg hk, if_neg ho, if_neg hl]
  rw [hd]
  clear hd
  have hb := clm_bd hi
  obtain ⟨L, hL⟩ : ∃ L, clm c = L := ⟨_, rfl⟩
  have hcs : csum c = c.cum + L := by unfold csum; rw [hL]
  obtain ⟨id, ve, sd, st, q, p, nq, np, cum⟩ := c
  obtain ⟨h1, h2, h3, h4, h5, h6, h7, h8, h9⟩ := hi
  rw [hL] at hl hb ⊢
  simp only at *
  by_cases he : qty = L
  · rw [if_pos he]
    have hn : nx st 6 (cum + qty) = nt (toT st 6) st (cum + qty) := nx_in h1 h2 (by omega) (by omega) (by omega)
    have h5' : st = 1 ∨ st = 2 ∨ st = 3 ∨ st = 4 ∨ st = 5 := by omega
    rcases h5' with rfl | rfl | rfl | rfl | rfl <;>
      (simp [toT, rowT, nt] at hn
       unfold cEv
       simp only [hn]
       unfold clm at hL
       simp at hL
       refine ⟨?_, ?_, ?_⟩
       · constructor <;> simp [cDone] <;> (try split at hL) <;> (try intro) <;> omega
       · rw [hcs]; simp [csum, clm, cDone] <;> omega
       · simp [cDone])
  · rw [if_neg he]
    have hn : nx st 5 (cum + qty) = nt (toT st 5) st (cum + qty) := nx_in h1 h2 (by omega) (by omega) (by omega)
    have h5' : st = 1 ∨ st = 2 ∨ st = 3 ∨ st = 4 ∨ st = 5 := by omega
    rcases h5' with rfl | rfl | rfl | rfl | rfl <;>
      (simp [toT, rowT, nt] at hn
       unfold cEv
       simp only [hn]
       unfold clm at hL
       simp at hL
       refine ⟨?_, ?_, ?_⟩
       · constructor <;> simp [cDone] <;> (try split at hL) <;> (try intro) <;> omega
       · rw [hcs]; simp [csum, clm, cDone] <;> (try split) <;> (try split at hL) <;> omega
       · simp [cDone])

theorem law_replace (c : Ch) (hi : CInv c) (qty price : Int) : CInv (cReplace c qty price).2 ∧ ((cReplace c qty price).1 ≠ 0 → csum (cReplace c qty price).2 = csum c) ∧ (csum (cReplace c qty price).2 ≤ csum c ∨ csum (cReplace c qty price).2 ≤ qty) := by
  by_cases hk : qty ≤ c.cum ∨ 1099511627776 < qty ∨ price < 1 ∨ 1099511627776 < price
  · unfold cReplace; rw [if_pos hk]; exact ⟨hi, fun _ => rfl, .inl (Int.le_refl _)⟩
  obtain ⟨id, ve, sd, st, q, p, nq, np, cum⟩ := c
  obtain ⟨h1, h2, h3, h4, h5, h6, h7, h8, h9⟩ := hi
  simp only at *
  have hn : nx st 10 cum = nt (toT st 10) st cum := nx_in h1 h2 (by omega) (by omega) h3
  rcases st_cases h1 h2 with rfl | rfl | rfl | rfl | rfl | rfl | rfl | rfl <;>
    (simp [toT, rowT, nt] at hn
     unfold cReplace cNow cEv
     simp only [hn, if_neg hk]
     refine ⟨?_, ?_, ?_⟩
     · constructor <;> simp [cDone] <;> omega
     · simp [csum, clm, cDone]
     · simp [csum, clm, cDone] <;> (try split) <;> omega)

/-- A step of the law: what is executed and may be grows by nothing but a replace, and by that to no more than was asked for. -/
theorem cDo_law (c : Ch) (hi : CInv c) (o : COp) : CInv (cDo c o).2 ∧ ((cDo c o).1 ≠ 0 → csum (cDo c o).2 = csum c) ∧ (csum (cDo c o).2 ≤ csum c ∨ (o.1 = 10 ∧ csum (cDo c o).2 ≤ o.2.1)) := by
  have hl : ∀ r, Law c r → CInv r.2 ∧ (r.1 ≠ 0 → csum r.2 = csum c) ∧ (csum r.2 ≤ csum c ∨ (o.1 = 10 ∧ csum r.2 ≤ o.2.1)) := fun r h => ⟨h.inv, h.eq, .inl h.le⟩
  unfold cDo
  split
  · exact hl _ (law_now c hi 1 (by omega))
  split
  · exact hl _ (law_now c hi 2 (by omega))
  split
  · exact hl _ (law_replaced c hi)
  split
  · exact hl _ (law_now c hi 4 (by omega))
  split
  · exact hl _ (law_trade c hi _)
  split
  · exact hl _ (law_bust c hi _)
  split
  · exact hl _ (law_refused c hi)
  split
  · exact hl _ (law_now c hi 9 (by omega))
  split
  · rename_i h10
    obtain ⟨a1, a2, a3⟩ := law_replace c hi o.2.1 o.2.2
    exact ⟨a1, a2, a3.imp id (fun h => ⟨h10, h⟩)⟩
  · exact hl _ (law_same c hi 0)

end Go.Proofs.Ytjhlaifflhjafaa
