import Derived.Test.YtjhlaifflhjafaaRf
namespace Go.Proofs.Ytjhlaifflhjafaa
open Go.RowKit

/-! The roster's state: which names have which slots, in the order of the names; the name that each slot has. -/
abbrev Seat := ByteArray × Nat
def seatC (p : Seat) : List Value := [.string p.1, .int .i64 p.2]
def em : ByteArray := ⟨#[]⟩
def emB (s : ByteArray) : Bool := s.toList == []
theorem emB_iff {s : ByteArray} : emB s = true ↔ s = em := by
  unfold emB
  constructor
  · intro h
    have h : s.toList = [] := by simpa using h
    exact toList_inj (h.trans (by rw [em, ByteArray.toList_eq]))
  · rintro rfl
    rw [em, ByteArray.toList_eq]; rfl
theorem emB_em : emB em = true := emB_iff.2 rfl
theorem emB_ne {s : ByteArray} (h : s ≠ em) : emB s = false := by
  cases hb : emB s with
  | false => rfl
  | true => exact absurd (emB_iff.1 hb) h
theorem ne_emB {s : ByteArray} (h : emB s = false) : s ≠ em := by rintro rfl; rw [emB_em] at h; cases h
theorem flat_take {α : Type} (f : α → List Value) (sz : Nat) (hf : ∀ x, (f x).length = sz) : ∀ (l : List α) (k : Nat), (l.flatMap f).take (k * sz) = (l.take k).flatMap f
  | [], k => by simp
  | a :: l, 0 => by simp
  | a :: l, k + 1 => by
    rw [List.flatMap_cons, List.take_append, List.take_of_length_le (by rw [hf, Nat.succ_mul]; omega), hf, show (k + 1) * sz - sz = k * sz by rw [Nat.succ_mul]; omega, flat_take f sz hf l k]
    rfl
theorem flat_drop {α : Type} (f : α → List Value) (sz : Nat) (hf : ∀ x, (f x).length = sz) : ∀ (l : List α) (k : Nat), (l.flatMap f).drop (k * sz) = (l.drop k).flatMap f
  | [], k => by simp
  | a :: l, 0 => by simp
  | a :: l, k + 1 => by
    rw [List.flatMap_cons, List.drop_append, List.drop_of_length_le (by rw [hf, Nat.succ_mul]; omega), hf, show (k + 1) * sz - sz = k * sz by rw [Nat.succ_mul]; omega, flat_drop f sz hf l k]
    rfl
/-- An element put ahead of the k-th; the k-th struck. -/
def putAt {α : Type} (k : Nat) (x : α) (l : List α) : List α := l.take k ++ x :: l.drop k
def cutAt {α : Type} (k : Nat) (l : List α) : List α := l.take k ++ l.drop (k + 1)
theorem insV_flat {α : Type} (f : α → List Value) (sz : Nat) (hf : ∀ x, (f x).length = sz) (l : List α) (k : Nat) (x : α) : insV sz k (l.flatMap f) (f x) = (putAt k x l).flatMap f := by
  unfold insV putAt
  rw [flat_take f sz hf, flat_drop f sz hf, List.flatMap_append, List.flatMap_cons, List.append_assoc]
theorem delV_flat {α : Type} (f : α → List Value) (sz : Nat) (hf : ∀ x, (f x).length = sz) (l : List α) (k : Nat) : delV sz k (l.flatMap f) = (cutAt k l).flatMap f := by
  unfold delV cutAt
  rw [flat_take f sz hf, flat_drop f sz hf, List.flatMap_append]
theorem putAt_len {α : Type} {k : Nat} {x : α} {l : List α} (h : k ≤ l.length) : (putAt k x l).length = l.length + 1 := by
  unfold putAt; simp; omega
theorem cutAt_len {α : Type} {k : Nat} {l : List α} (h : k < l.length) : (cutAt k l).length = l.length - 1 := by
  unfold cutAt; simp; omega
theorem mem_putAt {α : Type} {k : Nat} {x y : α} {l : List α} : y ∈ putAt k x l ↔ y = x ∨ y ∈ l := by
  unfold putAt
  rw [List.mem_append, List.mem_cons]
  constructor
  · rintro (h | h | h)
    · exact .inr (List.mem_of_mem_take h)
    · exact .inl h
    · exact .inr (List.mem_of_mem_drop h)
  · rintro (h | h)
    · exact .inr (.inl h)
    · rw [← List.take_append_drop k l, List.mem_append] at h
      exact h.imp id .inr
theorem split_at {α : Type} {k : Nat} {x : α} {l : List α} (h : l[k]? = some x) : l = l.take k ++ x :: l.drop (k + 1) := by
  obtain ⟨hk, hx⟩ := List.getElem?_eq_some_iff.1 h
  rw [← hx, ← List.drop_eq_getElem_cons hk, List.take_append_drop]

structure RInv (seats : List Seat) (slots : List ByteArray) : Prop where
  srt : seats.Pairwise (fun a b => bl a.1 b.1 = true)
  sl : ∀ p ∈ seats, slots[p.2]? = some p.1 ∧ p.1 ≠ em
  ls : ∀ i s, slots[i]? = some s → s ≠ em → (s, i) ∈ seats
  cnt : seats.length = slots.countP (fun s => !emB s)

def posN (seats : List Seat) (nm : ByteArray) : Nat := (seats.takeWhile (fun p => bl p.1 nm)).length
theorem posN_le (seats : List Seat) (nm : ByteArray) : posN seats nm ≤ seats.length := by
  unfold posN
  have := List.takeWhile_sublist (fun p : Seat => bl p.1 nm) (l := seats)
  exact this.length_le
theorem posN_lt : ∀ {seats : List Seat} {nm : ByteArray} {j : Nat} {p : Seat}, j < posN seats nm → seats[j]? = some p → bl p.1 nm = true
  | [], nm, j, p, h, _ => by simp [posN] at h
  | a :: l, nm, 0, p, h, hp => by
    simp only [List.getElem?_cons_zero, Option.some.injEq] at hp
    subst hp
    unfold posN at h
    rw [List.takeWhile_cons] at h
    cases hb : bl a.1 nm with
    | true => rfl
    | false => rw [hb] at h; simp at h
  | a :: l, nm, j + 1, p, h, hp => by
    unfold posN at h
    rw [List.takeWhile_cons] at h
    cases hb : bl a.1 nm with
    | true => rw [hb] at h; simp at h; exact posN_lt (seats := l) (by simpa [posN] using h) (by simpa using hp)
    | false => rw [hb] at h; simp at h
theorem posN_ge : ∀ {seats : List Seat} {nm : ByteArray} {j : Nat} {p : Seat}, seats.Pairwise (fun a b => bl a.1 b.1 = true) → posN seats nm ≤ j → seats[j]? = some p → bl p.1 nm = false
  | [], nm, j, p, _, _, hp => by simp at hp
  | a :: l, nm, j, p, hs, h, hp => by
    obtain ⟨h1, h2⟩ := List.pairwise_cons.1 hs
    unfold posN at h
    rw [List.takeWhile_cons] at h
    cases hb : bl a.1 nm with
    | true =>
      rw [hb] at h
      simp at h
      obtain ⟨j, rfl⟩ : ∃ i, j = i + 1 := ⟨j - 1, by omega⟩
      exact posN_ge (seats := l) (j := j) h2 (by unfold posN; omega) (by simpa using hp)
    | false =>
      match j, hp with
      | 0, hp => simp at hp; subst hp; exact hb
      | j + 1, hp =>
        have hm : p ∈ l := List.mem_of_getElem? (by simpa using hp)
        cases hc : bl p.1 nm with
        | false => rfl
        | true => rw [bl_trans (h1 p hm) hc] at hb; cases hb
/-- Does a name stand where it would stand? -/
def thereB (seats : List Seat) (nm : ByteArray) : Bool := match seats[posN seats nm]? with | some p => p.1.toList == nm.toList | none => false
theorem RInv.mem_pos {seats : List Seat} {slots : List ByteArray} (h : RInv seats slots) {nm : ByteArray} {i : Nat} (hm : (nm, i) ∈ seats) : seats[posN seats nm]? = some (nm, i) := by
  obtain ⟨j, hj, he⟩ := List.mem_iff_getElem.1 hm
  have hj? : seats[j]? = some (nm, i) := by rw [List.getElem?_eq_getElem hj, he]
  rcases Nat.lt_trichotomy j (posN seats nm) with hlt | rfl | hgt
  · have := posN_lt hlt hj?
    rw [bl_irrefl] at this
    cases this
  · exact hj?
  · have hk : posN seats nm < seats.length := by omega
    have h1 := posN_ge h.srt (Nat.le_refl _) (List.getElem?_eq_getElem hk)
    have h2 := List.pairwise_iff_getElem.1 h.srt _ _ hk hj hgt
    rw [he] at h2
    rw [h2] at h1
    cases h1
theorem RInv.there {seats : List Seat} {slots : List ByteArray} (h : RInv seats slots) (nm : ByteArray) : (thereB seats nm = true ∧ ∃ i, seats[posN seats nm]? = some (nm, i) ∧ slots[i]? = some nm ∧ nm ≠ em) ∨ (thereB seats nm = false ∧ ∀ i : Nat, slots[i]? = some nm → nm = em) := by
  cases ht : thereB seats nm with
  | true =>
    left
    unfold thereB at ht
    cases hp : seats[posN seats nm]? with
    | none => rw [hp] at ht; cases ht
    | some p =>
      rw [hp] at ht
      have hn : p.1 = nm := toList_inj (by simpa using ht)
      obtain ⟨s, i⟩ := p
      simp only at hn
      subst hn
      obtain ⟨a, b⟩ := h.sl _ (List.mem_of_getElem? hp)
      exact ⟨rfl, i, rfl, a, b⟩
  | false =>
    right
    refine ⟨rfl, fun i hi => ?_⟩
    cases he : emB nm with
    | true => exact emB_iff.1 he
    | false =>
      have := h.mem_pos (h.ls i nm hi (ne_emB he))
      unfold thereB at ht
      rw [this] at ht
      simp at ht
theorem RInv.len {seats : List Seat} {slots : List ByteArray} (h : RInv seats slots) : seats.length ≤ slots.length := by rw [h.cnt]; exact List.countP_le_length
theorem RInv.start (n : Nat) : RInv [] (List.replicate n em) := by
  refine ⟨List.Pairwise.nil, by simp, fun i s hs hne => ?_, ?_⟩
  · rw [List.getElem?_replicate] at hs
    split at hs
    · injection hs with hs; exact absurd hs.symm hne
    · cases hs
  · symm
    rw [List.length_nil, List.countP_eq_zero]
    intro s hs
    rw [List.eq_of_mem_replicate hs, emB_em]
    decide
theorem countP_set' {α : Type} (p : α → Bool) : ∀ (l : List α) (i : Nat) (x y : α), l[i]? = some x → (l.set i y).countP p + (if p x then 1 else 0) = l.countP p + (if p y then 1 else 0)
  | [], i, x, y, h => by simp at h
  | a :: l, 0, x, y, h => by
    simp only [List.getElem?_cons_zero, Option.some.injEq] at h
    subst h
    simp only [List.set_cons_zero, List.countP_cons]
    omega
  | a :: l, i + 1, x, y, h => by
    have := countP_set' p l i x y (by simpa using h)
    simp only [List.set_cons_succ, List.countP_cons]
    omega
theorem RInv.put {seats : List Seat} {slots : List ByteArray} (h : RInv seats slots) {nm : ByteArray} {f : Nat} (hne : nm ≠ em) (hnot : ∀ i : Nat, slots[i]? ≠ some nm) (hf : slots[f]? = some em) : RInv (putAt (posN seats nm) (nm, f) seats) (slots.set f nm) := by
  have hfl : f < slots.length := (List.getElem?_eq_some_iff.1 hf).1
  refine ⟨?_, ?_, ?_, ?_⟩
  · unfold putAt
    have hp := h.srt
    rw [← List.take_append_drop (posN seats nm) seats] at hp
    obtain ⟨q1, q2, q3⟩ := List.pairwise_append.1 hp
    refine List.pairwise_append.2 ⟨q1, List.pairwise_cons.2 ⟨fun b hb => ?_, q2⟩, fun a ha b hb => ?_⟩
    · obtain ⟨j, hj, rfl⟩ := List.mem_iff_getElem.1 hb
      have hj' : posN seats nm + j < seats.length := by simp at hj; omega
      have e : (seats.drop (posN seats nm))[j] = seats[posN seats nm + j] := by simp
      rw [e]
      have h1 := posN_ge h.srt (Nat.le_add_right (posN seats nm) j) (List.getElem?_eq_getElem hj')
      cases hb2 : bl nm (seats[posN seats nm + j]).1 with
      | true => rfl
      | false =>
        have := bl_total hb2 h1
        have hs := (h.sl _ (List.getElem_mem hj')).1
        rw [← this] at hs
        exact absurd hs (hnot _)
    · rcases List.mem_cons.1 hb with rfl | hb
      · obtain ⟨j, hj, rfl⟩ := List.mem_iff_getElem.1 ha
        have hj' : j < posN seats nm := by rw [List.length_take] at hj; omega
        have hjl : j < seats.length := by rw [List.length_take] at hj; omega
        have e : (seats.take (posN seats nm))[j] = seats[j] := by simp
        rw [e]
        exact posN_lt hj' (List.getElem?_eq_getElem hjl)
      · exact q3 a ha b hb
  · intro p hp
    rcases mem_putAt.1 hp with rfl | hp
    · exact ⟨by rw [List.getElem?_set_self hfl], hne⟩
    · obtain ⟨a, b⟩ := h.sl p hp
      refine ⟨?_, b⟩
      rw [List.getElem?_set_ne]
      · exact a
      · rintro rfl
        rw [hf] at a
        injection a with a
        exact b a.symm
  · intro i s hs hse
    by_cases hif : f = i
    · subst hif
      rw [List.getElem?_set_self hfl] at hs
      injection hs with hs
      subst hs
      exact mem_putAt.2 (.inl rfl)
    · rw [List.getElem?_set_ne hif] at hs
      exact mem_putAt.2 (.inr (h.ls i s hs hse))
  · have := countP_set' (fun s => !emB s) slots f em nm hf
    rw [emB_em, emB_ne hne] at this
    simp only [Bool.not_true, Bool.not_false, if_true] at this
    rw [putAt_len (posN_le _ _), h.cnt]
    simp at this
    omega
theorem RInv.drop {seats : List Seat} {slots : List ByteArray} (h : RInv seats slots) {nm : ByteArray} {k i : Nat} (hk : seats[k]? = some (nm, i)) : RInv (cutAt k seats) (slots.set i em) := by
  have hs := split_at hk
  have hkl : k < seats.length := (List.getElem?_eq_some_iff.1 hk).1
  obtain ⟨a1, a2⟩ := h.sl _ (List.mem_of_getElem? hk)
  simp only at a1 a2
  have hil : i < slots.length := (List.getElem?_eq_some_iff.1 a1).1
  have hp := h.srt
  rw [hs] at hp
  obtain ⟨q1, q2, q3⟩ := List.pairwise_append.1 hp
  obtain ⟨q4, q5⟩ := List.pairwise_cons.1 q2
  refine ⟨?_, ?_, ?_, ?_⟩
  · unfold cutAt
    exact List.pairwise_append.2 ⟨q1, q5, fun a ha b hb => q3 a ha b (List.mem_cons_of_mem _ hb)⟩
  · intro p hp
    have hm : p ∈ seats := by
      rw [hs]
      unfold cutAt at hp
      rcases List.mem_append.1 hp with hp | hp
      · exact List.mem_append.2 (.inl hp)
      · exact List.mem_append.2 (.inr (List.mem_cons_of_mem _ hp))
    obtain ⟨b1, b2⟩ := h.sl p hm
    refine ⟨?_, b2⟩
    rw [List.getElem?_set_ne]
    · exact b1
    · intro e
      rw [← e, a1] at b1
      injection b1 with b1
      unfold cutAt at hp
      rcases List.mem_append.1 hp with hp | hp
      · exact bl_ne (q3 p hp (nm, i) (List.mem_cons_self ..)) b1.symm
      · exact bl_ne (q4 p hp) b1
  · intro j s hj hse
    by_cases hij : i = j
    · subst hij
      rw [List.getElem?_set_self hil] at hj
      injection hj with hj
      exact absurd hj.symm hse
    · rw [List.getElem?_set_ne hij] at hj
      have hm := h.ls j s hj hse
      rw [hs] at hm
      unfold cutAt
      rcases List.mem_append.1 hm with hm | hm
      · exact List.mem_append.2 (.inl hm)
      · rcases List.mem_cons.1 hm with e | hm
        · injection e with e1 e2; exact absurd e2.symm hij
        · exact List.mem_append.2 (.inr hm)
  · have := countP_set' (fun s => !emB s) slots i nm em a1
    rw [emB_em, emB_ne a2] at this
    rw [cutAt_len hkl, h.cnt]
    simp at this
    omega

end Go.Proofs.Ytjhlaifflhjafaa
