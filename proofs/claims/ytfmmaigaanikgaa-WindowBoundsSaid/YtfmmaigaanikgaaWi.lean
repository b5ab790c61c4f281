import Derived.Test.YtfmmaigaanikgaaWg
namespace Go.Proofs.Ytfmmaigaanikgaa
open Go.RowKit

/-- All that was taken, and what the window keeps of it. -/
structure TkInv (wd : Int) (m : Nat) (tk ts : List Int) : Prop where
  hs : tk.Pairwise (· ≤ ·)
  hb : ∀ t ∈ tk, 0 ≤ t ∧ t ≤ 1099511627776
  suf : ts = tk.drop (tk.length - m)
  gap : ∀ (i : Nat) (a c : Int), tk[i]? = some a → tk[i + m]? = some c → wd ≤ c - a

theorem TkInv.nil (wd : Int) (m : Nat) : TkInv wd m [] [] := ⟨List.Pairwise.nil, by simp, by simp, by simp⟩

theorem TkInv.step {wd t : Int} {m : Nat} {tk ts : List Int} (h : TkInv wd m tk ts) (hm : 1 ≤ m) (hr : rightB ts t = true) (hc : cntW wd t ts < m) : TkInv wd m (tk ++ [t]) (tkW (m : Int) ts t) := by
  obtain ⟨h0, h9, hl⟩ := rightB_iff.1 hr
  have hlen : ts.length = tk.length - (tk.length - m) := by rw [h.suf, List.length_drop]
  have hts : ts.Pairwise (· ≤ ·) := by rw [h.suf]; exact h.hs.sublist (List.drop_sublist _ _)
  have hall : ∀ x ∈ tk, x ≤ t := by
    intro x hx
    rcases Nat.eq_zero_or_pos ts.length with h1 | h1
    · have : tk.length = 0 := by omega
      rw [List.length_eq_zero_iff.1 this] at hx
      simp at hx
    · have hle := lastLe_all hts hl
      obtain ⟨l, hl2⟩ : ∃ l, tk.getLast? = some l := by
        cases hh : tk.getLast? with
        | none => rw [List.getLast?_eq_none_iff] at hh; subst hh; simp at hx
        | some l => exact ⟨l, rfl⟩
      have h2 := sorted_last h.hs hl2 x hx
      have h3 : l ∈ ts := by
        have : ts.getLast? = some l := by rw [h.suf, List.getLast?_drop, if_neg (by omega)]; exact hl2
        exact List.mem_of_getLast? this
      have := hle l h3
      omega
  refine ⟨?_, ?_, ?_, ?_⟩
  · rw [List.pairwise_append]
    exact ⟨h.hs, by simp, fun a ha b hb => by simp at hb; subst hb; exact hall a ha⟩
  · intro x hx
    rcases List.mem_append.1 hx with h1 | h1
    · exact h.hb x h1
    · simp at h1; subst h1; exact ⟨h0, h9⟩
  · unfold tkW
    rw [List.length_append, List.length_singleton]
    by_cases hfull : (ts.length : Int) = m
    · rw [if_pos hfull, List.drop_append_of_le_length (by omega)]
      congr 1
      rw [h.suf, List.drop_drop]
      congr 1
      omega
    · rw [if_neg hfull]
      have e1 : tk.length - m = 0 := by omega
      have e2 : tk.length + 1 - m = 0 := by omega
      rw [e2, List.drop_zero, h.suf, e1, List.drop_zero]
  · intro i a c ha hc2
    by_cases hi : i + m < tk.length
    · rw [List.getElem?_append_left hi] at hc2
      rw [List.getElem?_append_left (by omega)] at ha
      exact h.gap i a c ha hc2
    · have hi2 : i + m = tk.length := by
        have : i + m < (tk ++ [t]).length := (List.getElem?_eq_some_iff.1 hc2).1
        simp at this; omega
      rw [hi2, List.getElem?_append_right (Nat.le_refl _), Nat.sub_self] at hc2
      simp at hc2
      subst hc2
      rw [List.getElem?_append_left (by omega)] at ha
      have hhead : ts = a :: tk.drop (i + 1) := by
        rw [h.suf, show tk.length - m = i by omega]
        obtain ⟨hlt, he⟩ := List.getElem?_eq_some_iff.1 ha
        rw [List.drop_eq_getElem_cons hlt, he]
      have hl3 : cntW wd t ts < ts.length := by omega
      rw [hhead] at hl3 hts
      exact cnt_first hts hl3

/-- From any of them on, no more are near than may be. -/
theorem TkInv.bound {wd t : Int} {m : Nat} {tk ts : List Int} (h : TkInv wd m tk ts) {i : Nat} (ht : tk[i]? = some t) : ((tk.drop i).filter fun s => decide (s - t < wd)).length ≤ m := by
  rw [← List.take_append_drop m (tk.drop i), List.filter_append, List.length_append]
  have h2 : ((tk.drop i).drop m).filter (fun s => decide (s - t < wd)) = [] := by
    rw [List.filter_eq_nil_iff]
    intro s hs
    obtain ⟨j, hj⟩ := List.mem_iff_getElem?.1 hs
    rw [List.getElem?_drop, List.getElem?_drop] at hj
    obtain ⟨hlt, he⟩ := List.getElem?_eq_some_iff.1 hj
    obtain ⟨c, hc⟩ : ∃ c, tk[i + m]? = some c := ⟨_, List.getElem?_eq_getElem (by omega)⟩
    have hg := h.gap i t c ht hc
    have hcs : c ≤ s := by
      rcases Nat.eq_zero_or_pos j with h0 | h0
      · subst h0
        rw [Nat.add_zero, hc] at hj
        injection hj with hj
        omega
      · obtain ⟨hlt2, he2⟩ := List.getElem?_eq_some_iff.1 hc
        have := List.pairwise_iff_getElem.1 h.hs (i + m) (i + (m + j)) hlt2 (by omega) (by omega)
        rw [he2, he] at this
        exact this
    simp
    omega
  rw [h2]
  have := List.length_filter_le (fun s => decide (s - t < wd)) ((tk.drop i).take m)
  have h3 := List.length_take_le m (tk.drop i)
  simp only [List.length_nil]
  omega
theorem TkInv.ge {wd t s : Int} {m : Nat} {tk ts : List Int} (h : TkInv wd m tk ts) {i j : Nat} (ht : tk[i]? = some t) (hs : tk[i + j]? = some s) : t ≤ s ∧ s ≤ 1099511627776 ∧ 0 ≤ t := by
  refine ⟨?_, (h.hb s (List.mem_of_getElem? hs)).2, (h.hb t (List.mem_of_getElem? ht)).1⟩
  obtain ⟨l1, e1⟩ := List.getElem?_eq_some_iff.1 ht
  obtain ⟨l2, e2⟩ := List.getElem?_eq_some_iff.1 hs
  rcases Nat.eq_zero_or_pos j with h0 | h0
  · subst h0
    rw [Nat.add_zero, ht] at hs
    injection hs with hs
    omega
  · have := List.pairwise_iff_getElem.1 h.hs i (i + j) l1 l2 (by omega)
    rw [e1, e2] at this
    exact this

end Go.Proofs.Ytfmmaigaanikgaa
