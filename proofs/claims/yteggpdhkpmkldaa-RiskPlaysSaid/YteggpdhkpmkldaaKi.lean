import Derived.Test.YteggpdhkpmkldaaKg
namespace Go.Proofs.Yteggpdhkpmkldaa
open Go.RowKit

/-! The book, in plain Lean. -/
def pAt (ps : List Purse) (a : Int) : Purse := ps.getD a.toNat (0, 0, 0)
def hAt (hs : List Hold) (s : Int) : Hold := hs.getD s.toNat hold0
abbrev BSt := Int × List Purse × List Hold
def bRes (ps : List Purse) (hs : List Hold) (a s n : Int) : BSt :=
  if inB ps.length a = true ∧ inB hs.length s = true ∧ inLim n = true then
    if hAt hs s ≠ hold0 then (41, ps, hs)
    else if (pAt ps a).1 - (pAt ps a).2.1 - (pAt ps a).2.2 < n then (170, ps, hs)
    else (0, ps.set a.toNat ((pAt ps a).1, (pAt ps a).2.1 + n, (pAt ps a).2.2), hs.set s.toNat (true, a, n))
  else (2, ps, hs)
def bRsz (ps : List Purse) (hs : List Hold) (s n : Int) : BSt :=
  if inB hs.length s = true ∧ inLim n = true then
    if (hAt hs s).1 = true then
      let p := pAt ps (hAt hs s).2.1
      if p.1 - p.2.1 - p.2.2 + (hAt hs s).2.2 < n then (170, ps, hs)
      else (0, ps.set (hAt hs s).2.1.toNat (p.1, p.2.1 + (n - (hAt hs s).2.2), p.2.2), hs.set s.toNat (true, (hAt hs s).2.1, n))
    else (42, ps, hs)
  else (2, ps, hs)
def bStl (ps : List Purse) (hs : List Hold) (s n : Int) : BSt :=
  if inB hs.length s = true ∧ 0 ≤ n then
    if (hAt hs s).1 = true then
      let p := pAt ps (hAt hs s).2.1
      if (hAt hs s).2.2 < n then (2, ps, hs)
      else (0, ps.set (hAt hs s).2.1.toNat (p.1, p.2.1 - (hAt hs s).2.2, p.2.2 + n), hs.set s.toNat hold0)
    else (42, ps, hs)
  else (2, ps, hs)
def bUnd (ps : List Purse) (hs : List Hold) (a n : Int) : BSt :=
  if inB ps.length a = true ∧ 0 ≤ n ∧ n ≤ (pAt ps a).2.2 then (0, ps.set a.toNat ((pAt ps a).1, (pAt ps a).2.1, (pAt ps a).2.2 - n), hs)
  else (2, ps, hs)

def wt (a : Int) (x : Hold) : Int := if x.1 = true ∧ x.2.1 = a then x.2.2 else 0
def sumH (hs : List Hold) (a : Int) : Int := (hs.map (wt a)).sum
theorem sumH_set (a : Int) : ∀ (hs : List Hold) (s : Nat) (x y : Hold), hs[s]? = some x → sumH (hs.set s y) a = sumH hs a - wt a x + wt a y
  | [], s, x, y, h => by simp at h
  | z :: hs, 0, x, y, h => by
    simp at h
    subst h
    simp [sumH]
    omega
  | z :: hs, s + 1, x, y, h => by
    have := sumH_set a hs s x y (by simpa using h)
    simp [sumH] at *
    omega
theorem sumH_ge (a : Int) : ∀ (hs : List Hold) (s : Nat) (x : Hold), (∀ y ∈ hs, 0 ≤ wt a y) → hs[s]? = some x → wt a x ≤ sumH hs a
  | [], s, x, _, h => by simp at h
  | z :: hs, 0, x, hn, h => by
    simp at h
    subst h
    have : 0 ≤ sumH hs a := by
      have h2 : ∀ y ∈ hs, 0 ≤ wt a y := fun y hy => hn y (by simp [hy])
      clear hn
      induction hs with
      | nil => simp [sumH]
      | cons y hs ih =>
        have := ih (fun z hz => h2 z (by simp [hz]))
        have := h2 y (by simp)
        simp [sumH] at *
        omega
    simp [sumH] at *
    omega
  | z :: hs, s + 1, x, hn, h => by
    have := sumH_ge a hs s x (fun y hy => hn y (by simp [hy])) (by simpa using h)
    have := hn z (by simp)
    simp [sumH] at *
    omega

/-- What holds of every book: the limits are those it was made with; a purse's reserved is what its holds hold. -/
structure BInv (ls : List Int) (ps : List Purse) (hs : List Hold) : Prop where
  hl : ps.map (fun p => p.1) = ls
  hp : ∀ (a : Nat) p, ps[a]? = some p → POk p ∧ p.2.1 = sumH hs a
  hh : ∀ (s : Nat) x, hs[s]? = some x → (x.1 = true ∧ ∃ a : Nat, x.2.1 = a ∧ a < ps.length ∧ 0 ≤ x.2.2) ∨ x = hold0
theorem wt_hold0 (a : Int) : wt a hold0 = 0 := by simp [wt, hold0]
section
variable {ls : List Int} {ps : List Purse} {hs : List Hold}
theorem BInv.nonneg (h : BInv ls ps hs) (a : Int) : ∀ y ∈ hs, 0 ≤ wt a y := by
  intro y hy
  obtain ⟨s, hs'⟩ := List.mem_iff_getElem?.1 hy
  rcases h.hh s y hs' with ⟨_, c, _, _, h0⟩ | rfl
  · unfold wt; split <;> omega
  · rw [wt_hold0]; exact Int.le_refl _
theorem BInv.held_le (h : BInv ls ps hs) {s a : Nat} {m : Int} {p : Purse} (hx : hs[s]? = some (true, (a : Int), m)) (hp : ps[a]? = some p) : 0 ≤ m ∧ m ≤ p.2.1 := by
  have h1 := sumH_ge a hs s _ (h.nonneg a) hx
  rw [(h.hp a p hp).2]
  have h2 := h.nonneg a _ (List.mem_of_getElem? hx)
  simp [wt] at h1 h2
  omega
theorem BInv.set (h : BInv ls ps hs) {s a : Nat} {p p' : Purse} {x y : Hold} (hp : ps[a]? = some p) (hx : hs[s]? = some x) (hl : p'.1 = p.1) (hxa : x.1 = true → x.2.1 = a) (hy : (y.1 = true ∧ y.2.1 = a ∧ 0 ≤ y.2.2) ∨ y = hold0)
    (h1 : p'.2.1 = p.2.1 - wt a x + wt a y) (hok : POk p') : BInv ls (ps.set a p') (hs.set s y) := by
  have ha : a < ps.length := (List.getElem?_eq_some_iff.1 hp).1
  have hoth : ∀ c : Nat, c ≠ a → wt c x = 0 ∧ wt c y = 0 := by
    intro c hc
    refine ⟨?_, ?_⟩
    · unfold wt; split
      · rename_i hh; have := hxa hh.1; omega
      · rfl
    · rcases hy with ⟨_, h2, _⟩ | rfl
      · unfold wt; split
        · omega
        · rfl
      · exact wt_hold0 _
  refine ⟨?_, ?_, ?_⟩
  · rw [List.map_set, hl, ← h.hl]
    apply List.ext_getElem?
    intro i
    by_cases hi : i = a
    · subst hi; rw [List.getElem?_set_self (by simpa using ha), List.getElem?_map, hp]; rfl
    · rw [List.getElem?_set_ne (fun e => hi e.symm)]
  · intro c q hq
    rw [sumH_set c hs s x y hx]
    by_cases hc : c = a
    · subst hc
      rw [List.getElem?_set_self ha] at hq
      injection hq with hq
      subst hq
      exact ⟨hok, by rw [h1, (h.hp c p hp).2]⟩
    · rw [List.getElem?_set_ne (fun e => hc e.symm)] at hq
      obtain ⟨w1, w2⟩ := hoth c hc
      rw [w1, w2]
      obtain ⟨o1, o2⟩ := h.hp c q hq
      exact ⟨o1, by omega⟩
  · intro i z hz
    rw [List.length_set]
    by_cases hi : i = s
    · subst hi
      rw [List.getElem?_set_self (List.getElem?_eq_some_iff.1 hx).1] at hz
      injection hz with hz
      subst hz
      rcases hy with ⟨y1, y2, y3⟩ | rfl
      · exact .inl ⟨y1, a, y2, ha, y3⟩
      · exact .inr rfl
    · rw [List.getElem?_set_ne (fun e => hi e.symm)] at hz
      exact h.hh i z hz
theorem BInv.setP (h : BInv ls ps hs) {a : Nat} {p p' : Purse} (hp : ps[a]? = some p) (hl : p'.1 = p.1) (h1 : p'.2.1 = p.2.1) (hok : POk p') : BInv ls (ps.set a p') hs := by
  have ha : a < ps.length := (List.getElem?_eq_some_iff.1 hp).1
  refine ⟨?_, ?_, ?_⟩
  · rw [List.map_set, hl, ← h.hl]
    apply List.ext_getElem?
    intro i
    by_cases hi : i = a
    · subst hi; rw [List.getElem?_set_self (by simpa using ha), List.getElem?_map, hp]; rfl
    · rw [List.getElem?_set_ne (fun e => hi e.symm)]
  · intro c q hq
    by_cases hc : c = a
    · subst hc
      rw [List.getElem?_set_self ha] at hq
      injection hq with hq
      subst hq
      exact ⟨hok, by rw [h1, (h.hp c p hp).2]⟩
    · rw [List.getElem?_set_ne (fun e => hc e.symm)] at hq
      exact h.hp c q hq
  · intro i z hz
    rw [List.length_set]
    exact h.hh i z hz
theorem inB_toNat {n : Nat} {i : Int} (h : inB n i = true) : ∃ a : Nat, i = a ∧ a < n := (inB_cases n i).resolve_left (by rw [h]; exact Bool.noConfusion)
theorem pAt_of {a : Nat} {p : Purse} (h : ps[a]? = some p) : pAt ps a = p := by simp [pAt, List.getD_eq_getElem?_getD, h]
theorem hAt_of {a : Nat} {p : Hold} (h : hs[a]? = some p) : hAt hs a = p := by simp [hAt, List.getD_eq_getElem?_getD, h]
end

theorem kReserve_any (w : World) (b gp gh cp : Nat) (ls : List Int) (ps : List Purse) (hs : List Hold) (a s n : Int) (h : BkAt w b gp gh cp ps hs) (hi : BInv ls ps hs) :
    Calls Try.prog 25 #[.pointer (some ⟨b, 0, none⟩), .int .i64 a, .int .i64 s, .int .i64 n] w fun e w' => e = .returned (.int .i64 (bRes ps hs a s n).1) ∧ BkAt w' b gp gh cp (bRes ps hs a s n).2.1 (bRes ps hs a s n).2.2 ∧ BInv ls (bRes ps hs a s n).2.1 (bRes ps hs a s n).2.2 ∧ Mods (fun k => k = gp ∨ k = gh) w w' := by
  by_cases hg : inB ps.length a = true ∧ inB hs.length s = true ∧ inLim n = true
  · obtain ⟨a, rfl, ha⟩ := inB_toNat hg.1
    obtain ⟨s, rfl, hs'⟩ := inB_toNat hg.2.1
    obtain ⟨p, hp⟩ : ∃ p, ps[a]? = some p := ⟨_, List.getElem?_eq_getElem ha⟩
    obtain ⟨x, hx⟩ : ∃ x, hs[s]? = some x := ⟨_, List.getElem?_eq_getElem hs'⟩
    by_cases h0 : x = hold0
    · subst h0
      by_cases hl : p.1 - p.2.1 - p.2.2 < n
      · have hb : bRes ps hs a s n = (170, ps, hs) := by unfold bRes; rw [if_pos hg, hAt_of hx, pAt_of hp, if_neg (by simp), if_pos hl]
        rw [hb]
        exact (kReserve_limit w b gp gh cp a s ps hs n p h hp (hi.hp a p hp).1 hx hg.2.2 hl).mono fun e w' ⟨he, hm⟩ => ⟨he, h.mods hm id id id, hi, hm.mono fun _ _ hf => hf.elim⟩
      · have hb : bRes ps hs a s n = (0, ps.set a (p.1, p.2.1 + n, p.2.2), hs.set s (true, (a : Int), n)) := by unfold bRes; rw [if_pos hg, hAt_of hx, pAt_of hp, if_neg (by simp), if_neg hl]; rfl
        rw [hb]
        have hn0 : 0 ≤ n := by have := hg.2.2; unfold inLim at this; simp at this; omega
        obtain ⟨o1, o2, o3, o4, o5⟩ := (hi.hp a p hp).1
        refine (kReserve_ok w b gp gh cp a s ps hs n p h hp (hi.hp a p hp).1 hx hg.2.2 (by omega)).mono fun e w' ⟨he, h1, hm⟩ => ⟨he, h1, ?_, hm⟩
        exact hi.set hp hx rfl (fun h => by simp [hold0] at h) (.inl ⟨rfl, rfl, hn0⟩) (by rw [wt_hold0]; simp [wt]) ⟨o1, o2, by simp only; omega, o4, by simp only; omega⟩
    · have hb : bRes ps hs a s n = (41, ps, hs) := by unfold bRes; rw [if_pos hg, hAt_of hx, if_pos h0]
      rw [hb]
      refine (kReserve_twice w b gp gh cp a s ps hs n x h ha hx hg.2.2 ?_).mono fun e w' ⟨he, k, hw⟩ => by subst hw; exact ⟨he, h.drewN k, hi, (Mods.refl _ w).drewN k⟩
      obtain ⟨x1, x2, x3⟩ := x
      simp only [hold0, Prod.mk.injEq, not_and] at h0
      cases x1 <;> simp at h0 ⊢
      intro e
      exact h0 e
  · have hb : bRes ps hs a s n = (2, ps, hs) := by unfold bRes; rw [if_neg hg]
    rw [hb]
    refine (kReserve_arg w b gp gh cp ps hs a s n h ?_).mono fun e w' ⟨he, k, hw⟩ => by subst hw; exact ⟨he, h.drewN k, hi, (Mods.refl _ w).drewN k⟩
    cases h1 : inB ps.length a
    · exact .inl rfl
    · cases h2 : inB hs.length s
      · exact .inr (.inl rfl)
      · cases h3 : inLim n
        · exact .inr (.inr rfl)
        · exact absurd ⟨h1, h2, h3⟩ hg

theorem kResize_any (w : World) (b gp gh cp : Nat) (ls : List Int) (ps : List Purse) (hs : List Hold) (s n : Int) (h : BkAt w b gp gh cp ps hs) (hi : BInv ls ps hs) :
    Calls Try.prog 26 #[.pointer (some ⟨b, 0, none⟩), .int .i64 s, .int .i64 n] w fun e w' => e = .returned (.int .i64 (bRsz ps hs s n).1) ∧ BkAt w' b gp gh cp (bRsz ps hs s n).2.1 (bRsz ps hs s n).2.2 ∧ BInv ls (bRsz ps hs s n).2.1 (bRsz ps hs s n).2.2 ∧ Mods (fun k => k = gp ∨ k = gh) w w' := by
  by_cases hg : inB hs.length s = true ∧ inLim n = true
  · obtain ⟨s, rfl, hs'⟩ := inB_toNat hg.1
    obtain ⟨x, hx⟩ : ∃ x, hs[s]? = some x := ⟨_, List.getElem?_eq_getElem hs'⟩
    have hn0 : 0 ≤ n ∧ n ≤ 4611686018427387904 := by have := hg.2; unfold inLim at this; simp at this; exact this
    rcases hi.hh s x hx with ⟨x1, a, x2, ha, x3⟩ | rfl
    · obtain ⟨t, q, m⟩ := x
      simp only at x1 x2 x3
      subst x1 x2
      obtain ⟨p, hp⟩ : ∃ p, ps[a]? = some p := ⟨_, List.getElem?_eq_getElem ha⟩
      have hle := hi.held_le hx hp
      obtain ⟨o1, o2, o3, o4, o5⟩ := (hi.hp a p hp).1
      by_cases hl : p.1 - p.2.1 - p.2.2 + m < n
      · have hb : bRsz ps hs s n = (170, ps, hs) := by unfold bRsz; rw [if_pos hg, hAt_of hx]; simp only [if_true]; rw [pAt_of hp, if_pos hl]
        rw [hb]
        exact (kResize_limit w b gp gh cp a s ps hs n m p h hp (hi.hp a p hp).1 hx hle hg.2 hl).mono fun e w' ⟨he, hm, h1⟩ => ⟨he, h1, hi, hm⟩
      · have hb : bRsz ps hs s n = (0, ps.set a (p.1, p.2.1 + (n - m), p.2.2), hs.set s (true, (a : Int), n)) := by unfold bRsz; rw [if_pos hg, hAt_of hx]; simp only [if_true]; rw [pAt_of hp, if_neg hl]; rfl
        rw [hb]
        refine (kResize_ok w b gp gh cp a s ps hs n m p h hp (hi.hp a p hp).1 hx hle hg.2 (by omega)).mono fun e w' ⟨he, h1, hm⟩ => ⟨he, h1, ?_, hm⟩
        exact hi.set hp hx rfl (fun _ => rfl) (.inl ⟨rfl, rfl, hn0.1⟩) (by simp [wt]; omega) ⟨o1, o2, by simp only; omega, o4, by simp only; omega⟩
    · have hb : bRsz ps hs s n = (42, ps, hs) := by unfold bRsz; rw [if_pos hg, hAt_of hx]; simp [hold0]
      rw [hb]
      exact (kResize_not w _ s n 42 rfl (kHeld1_in w b gp gh cp s ps hs n hold0 h hx hg.2)).mono fun e w' ⟨he, k, hw⟩ => by subst hw; exact ⟨he, h.drewN k, hi, (Mods.refl _ w).drewN k⟩
  · have hb : bRsz ps hs s n = (2, ps, hs) := by unfold bRsz; rw [if_neg hg]
    rw [hb]
    refine (kResize_not w _ s n 2 rfl (kHeld1_arg w b gp gh cp ps hs s n h ?_)).mono fun e w' ⟨he, k, hw⟩ => by subst hw; exact ⟨he, h.drewN k, hi, (Mods.refl _ w).drewN k⟩
    cases h2 : inB hs.length s
    · exact .inl rfl
    · cases h3 : inLim n
      · exact .inr rfl
      · exact absurd ⟨h2, h3⟩ hg

theorem kSettle_any (w : World) (b gp gh cp : Nat) (ls : List Int) (ps : List Purse) (hs : List Hold) (s n : Int) (h : BkAt w b gp gh cp ps hs) (hi : BInv ls ps hs) :
    Calls Try.prog 27 #[.pointer (some ⟨b, 0, none⟩), .int .i64 s, .int .i64 n] w fun e w' => e = .returned (.int .i64 (bStl ps hs s n).1) ∧ BkAt w' b gp gh cp (bStl ps hs s n).2.1 (bStl ps hs s n).2.2 ∧ BInv ls (bStl ps hs s n).2.1 (bStl ps hs s n).2.2 ∧ Mods (fun k => k = gp ∨ k = gh) w w' := by
  obtain ⟨v, hv⟩ : ∃ v : Int, (if 4611686018427387904 < n then 4611686018427387904 else n) = v := ⟨_, rfl⟩
  by_cases hg : inB hs.length s = true ∧ 0 ≤ n
  · obtain ⟨s, rfl, hs'⟩ := inB_toNat hg.1
    obtain ⟨x, hx⟩ : ∃ x, hs[s]? = some x := ⟨_, List.getElem?_eq_getElem hs'⟩
    have hvl : inLim v = true := by
      have := hg.2
      subst hv
      unfold inLim
      split <;> simp <;> omega
    rcases hi.hh s x hx with ⟨x1, a, x2, ha, x3⟩ | rfl
    · obtain ⟨t, q, m⟩ := x
      simp only at x1 x2 x3
      subst x1 x2
      obtain ⟨p, hp⟩ : ∃ p, ps[a]? = some p := ⟨_, List.getElem?_eq_getElem ha⟩
      have hle := hi.held_le hx hp
      obtain ⟨o1, o2, o3, o4, o5⟩ := (hi.hp a p hp).1
      by_cases hl : m < n
      · have hb : bStl ps hs s n = (2, ps, hs) := by unfold bStl; rw [if_pos hg, hAt_of hx]; simp only [if_true]; rw [if_pos hl]
        rw [hb]
        exact (kSettle_more w b gp gh cp s ps hs n m _ v h hx hv hg.2 hl).mono fun e w' ⟨he, h1, hm⟩ => ⟨he, h1, hi, hm⟩
      · have hb : bStl ps hs s n = (0, ps.set a (p.1, p.2.1 - m, p.2.2 + n), hs.set s hold0) := by unfold bStl; rw [if_pos hg, hAt_of hx]; simp only [if_true]; rw [pAt_of hp, if_neg hl]; rfl
        rw [hb]
        have hg2 := hg.2
        refine (kSettle_ok w b gp gh cp a s ps hs n m p h hp (hi.hp a p hp).1 hx hle hg.2 (by omega)).mono fun e w' ⟨he, h1, hm⟩ => ⟨he, h1, ?_, hm⟩
        exact hi.set hp hx rfl (fun _ => rfl) (.inr rfl) (by rw [wt_hold0]; simp [wt]) ⟨o1, o2, by simp only; omega, by simp only; omega, by simp only; omega⟩
    · have hb : bStl ps hs s n = (42, ps, hs) := by unfold bStl; rw [if_pos hg, hAt_of hx]; simp [hold0]
      rw [hb]
      exact (kSettle_not w _ s n 42 v hv rfl (kHeld1_in w b gp gh cp s ps hs v hold0 h hx hvl)).mono fun e w' ⟨he, k, hw⟩ => by subst hw; exact ⟨he, h.drewN k, hi, (Mods.refl _ w).drewN k⟩
  · have hb : bStl ps hs s n = (2, ps, hs) := by unfold bStl; rw [if_neg hg]
    rw [hb]
    refine (kSettle_not w _ s n 2 v hv rfl (kHeld1_arg w b gp gh cp ps hs s v h ?_)).mono fun e w' ⟨he, k, hw⟩ => by subst hw; exact ⟨he, h.drewN k, hi, (Mods.refl _ w).drewN k⟩
    cases h2 : inB hs.length s
    · exact .inl rfl
    · have hn : n < 0 := by
        apply Classical.byContradiction
        intro hc
        exact hg ⟨h2, by omega⟩
      have : v = n := by rw [← hv, if_neg (by omega)]
      subst this
      exact .inr (by unfold inLim; simp; omega)

theorem kUndo_any (w : World) (b gp gh cp : Nat) (ls : List Int) (ps : List Purse) (hs : List Hold) (a n : Int) (h : BkAt w b gp gh cp ps hs) (hi : BInv ls ps hs) :
    Calls Try.prog 34 #[.pointer (some ⟨b, 0, none⟩), .int .i64 a, .int .i64 n] w fun e w' => e = .returned (.int .i64 (bUnd ps hs a n).1) ∧ BkAt w' b gp gh cp (bUnd ps hs a n).2.1 (bUnd ps hs a n).2.2 ∧ BInv ls (bUnd ps hs a n).2.1 (bUnd ps hs a n).2.2 ∧ Mods (fun k => k = gp ∨ k = gh) w w' := by
  cases h1 : inB ps.length a with
  | false =>
    have hb : bUnd ps hs a n = (2, ps, hs) := by unfold bUnd; rw [if_neg (by rw [h1]; simp)]
    rw [hb]
    exact (kUndo_arg w b gp gh cp ps hs a n h h1).mono fun e w' ⟨he, k, hw⟩ => by subst hw; exact ⟨he, h.drewN k, hi, (Mods.refl _ w).drewN k⟩
  | true =>
    obtain ⟨a, rfl, ha⟩ := inB_toNat h1
    obtain ⟨p, hp⟩ : ∃ p, ps[a]? = some p := ⟨_, List.getElem?_eq_getElem ha⟩
    obtain ⟨o1, o2, o3, o4, o5⟩ := (hi.hp a p hp).1
    by_cases hn : 0 ≤ n ∧ n ≤ p.2.2
    · have hb : bUnd ps hs a n = (0, ps.set a (p.1, p.2.1, p.2.2 - n), hs) := by unfold bUnd; rw [pAt_of hp, if_pos ⟨h1, hn⟩]; rfl
      rw [hb]
      refine (kUndo_ok w b gp gh cp a ps hs n p h hp (hi.hp a p hp).1 (by simp; exact hn)).mono fun e w' ⟨he, h1, hm⟩ => ⟨he, h1, ?_, hm⟩
      exact hi.setP hp rfl rfl ⟨o1, o2, o3, by simp only; omega, by simp only; omega⟩
    · have hb : bUnd ps hs a n = (2, ps, hs) := by unfold bUnd; rw [pAt_of hp, if_neg (fun h => hn h.2)]
      rw [hb]
      exact (kUndo_much w b gp gh cp a ps hs n p h hp (by simp; omega)).mono fun e w' ⟨he, k, hw⟩ => by subst hw; exact ⟨he, h.drewN k, hi, (Mods.refl _ w).drewN k⟩

end Go.Proofs.Yteggpdhkpmkldaa
