import Derived.Test.YtjhlaifflhjafaaNp
namespace Go.Proofs.Ytjhlaifflhjafaa
open Go.RowKit

/-! The levels of a sorted side. -/
def sumL (f : Lv → Int) (M : List Lv) : Int := (M.map f).sum
def leftS (l : List Mo) : Int := (l.map (·.left)).sum
theorem sum_putL (f : Lv → Int) (h0 : f zLv = 0) : ∀ (M : List Lv) (x : Lv), sumL f (putL M x) = sumL f M - f (lkV M x.price) + f x
  | [], x => by simp [putL, sumL, lkV, lkL, h0]
  | y :: M, x => by
    have ih := sum_putL f h0 M x
    unfold putL
    split
    · rename_i h
      simp [sumL, lkV, lkL, h]
      omega
    · rename_i h
      have e : lkV (y :: M) x.price = lkV M x.price := by simp [lkV, lkL, h]
      rw [e]
      simp only [sumL, List.map_cons, List.sum_cons] at ih ⊢
      omega
theorem sum_take_le (f : Lv → Int) : ∀ (M : List Lv) (j : Nat), (∀ x ∈ M, 0 ≤ f x) → 0 ≤ sumL f (M.take j) ∧ sumL f (M.take j) ≤ sumL f M
  | [], j, h => by simp [sumL]
  | y :: M, 0, h => by
    have := sum_take_le f M 0 (fun x hx => h x (List.mem_cons_of_mem _ hx))
    have h1 := h y (List.mem_cons_self ..)
    simp only [List.take_zero, sumL, List.map_nil, List.sum_nil, List.map_cons, List.sum_cons] at this ⊢
    omega
  | y :: M, j + 1, h => by
    have := sum_take_le f M j (fun x hx => h x (List.mem_cons_of_mem _ hx))
    have h1 := h y (List.mem_cons_self ..)
    simp only [List.take_succ_cons, sumL, List.map_cons, List.sum_cons] at this ⊢
    omega
theorem sum_take_succ (f : Lv → Int) {M : List Lv} {j : Nat} {x : Lv} (h : M[j]? = some x) : sumL f (M.take (j + 1)) = sumL f (M.take j) + f x := by
  rw [List.take_add_one, h]
  simp [sumL]
structure DpI (side : Int) (l : List Mo) (M : List Lv) : Prop where
  b : ∀ v ∈ M, 1 ≤ v.qty ∧ 1 ≤ v.orders ∧ ∃ x ∈ l, x.price = v.price
  s : (M.map (·.price)).Pairwise fun a b => btr side a b = true
  o : sumL (·.orders) M = l.length
  q : sumL (·.qty) M = leftS l
theorem btr_total {side a b : Int} (h : btr side b a = false) (hne : a ≠ b) : btr side a b = true := by
  unfold btr at *
  split at h <;> simp_all <;> omega
theorem DpI.up {side : Int} {l : List Mo} {M : List Lv} (h : DpI side l M) (o : Mo) (ho : 1 ≤ o.left) (hs : ∀ x ∈ l, btr side o.price x.price = false) : DpI side (l ++ [o]) (lvUp M o) := by
  refine ⟨fun v hv => ?_, ?_, ?_, ?_⟩
  · rcases putL_mem hv with rfl | hv
    · have hz : 0 ≤ (lkV M o.price).qty ∧ 0 ≤ (lkV M o.price).orders := by
        rcases lkV_mem (M := M) (k := o.price) with he | he
        · rw [he]; exact ⟨Int.le_refl _, Int.le_refl _⟩
        · have := h.b _ he; exact ⟨by omega, by omega⟩
      refine ⟨by simp only; omega, by simp only; omega, o, by simp, rfl⟩
    · obtain ⟨a, b, x, hx, he⟩ := h.b v hv
      exact ⟨a, b, x, List.mem_append_left _ hx, he⟩
  · unfold lvUp
    rw [putL_prices]
    cases hf : lkL M o.price with
    | some x => simpa [hf] using h.s
    | none =>
      simp only [hf, Option.isSome_none, Bool.false_eq_true, if_false]
      refine List.pairwise_append.2 ⟨h.s, List.pairwise_singleton _ _, fun a ha b hb => ?_⟩
      rw [List.mem_singleton] at hb
      subst hb
      obtain ⟨v, hv, rfl⟩ := List.mem_map.1 ha
      obtain ⟨-, -, x, hx, he⟩ := h.b v hv
      refine btr_total (by rw [← he]; exact hs x hx) (fun e => lk_none hf (by rw [← e]; exact ha))
  · unfold lvUp
    rw [sum_putL _ rfl, h.o]
    simp
    omega
  · unfold lvUp
    rw [sum_putL _ rfl, h.q]
    simp [leftS]
    omega
theorem depth_ok (side : Int) : ∀ (l2 l1 : List Mo) (M : List Lv), DpI side l1 M → Srt side (l1 ++ l2) → (∀ x ∈ l2, 1 ≤ x.left) → DpI side (l1 ++ l2) (l2.foldl lvUp M)
  | [], l1, M, h, _, _ => by simpa using h
  | o :: l2, l1, M, h, hs, hb => by
    have hs2 := List.pairwise_append.1 hs
    have h2 := h.up o (hb o (List.mem_cons_self ..)) (fun x hx => hs2.2.2 x hx o (List.mem_cons_self ..))
    have := depth_ok side l2 (l1 ++ [o]) (lvUp M o) h2 (by rw [List.append_assoc]; exact hs) (fun x hx => hb x (List.mem_cons_of_mem _ hx))
    rw [List.append_assoc] at this
    exact this
theorem depthM_ok {side : Int} {l : List Mo} (hs : Srt side l) (hb : ∀ x ∈ l, 1 ≤ x.left) : DpI side l (depthM l) := by
  have := depth_ok side l [] [] ⟨fun _ h => (by cases h), List.Pairwise.nil, rfl, rfl⟩ (by simpa using hs) hb
  rw [List.nil_append] at this
  exact this
theorem DpI.next {side : Int} {l : List Mo} {M : List Lv} (h : DpI side l M) {j : Nat} {x y : Lv} (hx : M[j]? = some x) (hy : M[j + 1]? = some y) : btr side x.price y.price = true := by
  have h1 : (M.map (·.price))[j]? = some x.price := by rw [List.getElem?_map, hx]; rfl
  have h2 : (M.map (·.price))[j + 1]? = some y.price := by rw [List.getElem?_map, hy]; rfl
  obtain ⟨a1, a2⟩ := List.getElem?_eq_some_iff.1 h1
  obtain ⟨b1, b2⟩ := List.getElem?_eq_some_iff.1 h2
  have := List.pairwise_iff_getElem.1 h.s _ _ a1 b1 (Nat.lt_succ_self _)
  rwa [a2, b2] at this

end Go.Proofs.Ytjhlaifflhjafaa
