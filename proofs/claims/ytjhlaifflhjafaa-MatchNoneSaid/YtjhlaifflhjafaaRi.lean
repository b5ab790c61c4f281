import Derived.Test.YtjhlaifflhjafaaRh
namespace Go.Proofs.Ytjhlaifflhjafaa
open Go.RowKit

/-! What is asked of the slots. -/
def idxP {α : Type} (p : α → Bool) (l : List α) : Nat := (l.takeWhile (fun x => !p x)).length
theorem idxP_le {α : Type} (p : α → Bool) (l : List α) : idxP p l ≤ l.length := (List.takeWhile_sublist (fun x => !p x) (l := l)).length_le
theorem idxP_lt {α : Type} (p : α → Bool) : ∀ {l : List α} {j : Nat} {x : α}, j < idxP p l → l[j]? = some x → p x = false
  | [], j, x, h, _ => by simp [idxP] at h
  | a :: l, 0, x, h, hx => by
    simp only [List.getElem?_cons_zero, Option.some.injEq] at hx
    subst hx
    cases hp : p a with
    | false => rfl
    | true => simp [idxP, hp] at h
  | a :: l, j + 1, x, h, hx => by
    cases hp : p a with
    | true => simp [idxP, hp] at h
    | false => exact idxP_lt p (l := l) (j := j) (by simp [idxP, hp] at h ⊢; omega) (by simpa using hx)
theorem idxP_at {α : Type} (p : α → Bool) : ∀ {l : List α} {x : α}, l[idxP p l]? = some x → p x = true
  | [], x, h => by simp at h
  | a :: l, x, h => by
    cases hp : p a with
    | true =>
      have : idxP p (a :: l) = 0 := by simp [idxP, hp]
      rw [this] at h
      simp at h
      subst h
      exact hp
    | false =>
      have : idxP p (a :: l) = idxP p l + 1 := by simp [idxP, hp]
      rw [this] at h
      exact idxP_at p (l := l) (by simpa using h)
theorem idxP_eq {α : Type} (p : α → Bool) {l : List α} {k : Nat} {x : α} (h1 : ∀ j y, j < k → l[j]? = some y → p y = false) (h2 : l[k]? = some x) (h3 : p x = true) : idxP p l = k := by
  have hk := (List.getElem?_eq_some_iff.1 h2).1
  have hl := idxP_le p l
  rcases Nat.lt_trichotomy (idxP p l) k with h | h | h
  · have hi : idxP p l < l.length := by omega
    have ha := idxP_at p (List.getElem?_eq_getElem hi)
    rw [h1 _ _ h (List.getElem?_eq_getElem hi)] at ha
    cases ha
  · exact h
  · rw [idxP_lt p h h2] at h3; cases h3
theorem idxP_none {α : Type} (p : α → Bool) {l : List α} (h1 : ∀ (j : Nat) y, l[j]? = some y → p y = false) : idxP p l = l.length := by
  have hl := idxP_le p l
  rcases Nat.lt_or_ge (idxP p l) l.length with h | h
  · have ha := idxP_at p (List.getElem?_eq_getElem h)
    rw [h1 _ _ (List.getElem?_eq_getElem h)] at ha
    cases ha
  · omega

def eqB (nm s : ByteArray) : Bool := s.toList == nm.toList
theorem eqB_iff {nm s : ByteArray} : eqB nm s = true ↔ s = nm := ⟨fun h => toList_inj (by simpa [eqB] using h), fun h => by rw [h]; simp [eqB]⟩
def freeI (slots : List ByteArray) : Nat := idxP emB slots
def idxN (slots : List ByteArray) (nm : ByteArray) : Nat := idxP (eqB nm) slots
def fndS (slots : List ByteArray) (nm : ByteArray) : Option Nat := if emB nm = true then none else if idxN slots nm < slots.length then some (idxN slots nm) else none
theorem fndS_none {slots : List ByteArray} {nm : ByteArray} (h : ∀ i : Nat, slots[i]? = some nm → nm = em) : fndS slots nm = none := by
  unfold fndS
  split
  · rfl
  · rename_i he
    rw [if_neg]
    intro hi
    have := eqB_iff.1 (idxP_at (eqB nm) (List.getElem?_eq_getElem hi))
    have := h (idxN slots nm) (by rw [List.getElem?_eq_getElem hi]; exact congrArg some this)
    rw [this, emB_em] at he
    exact he rfl
theorem fndS_some {slots : List ByteArray} {nm : ByteArray} {i : Nat} (h : fndS slots nm = some i) : slots[i]? = some nm ∧ nm ≠ em ∧ ∀ j, j < i → slots[j]? ≠ some nm := by
  unfold fndS at h
  split at h
  · cases h
  · rename_i he
    split at h
    · rename_i hi
      injection h with h
      subst h
      have := eqB_iff.1 (idxP_at (eqB nm) (List.getElem?_eq_getElem hi))
      refine ⟨by rw [List.getElem?_eq_getElem hi]; exact congrArg some this, ne_emB (by simpa using he), fun j hj hn => ?_⟩
      have := idxP_lt (eqB nm) hj hn
      rw [eqB_iff.2 rfl] at this
      cases this
    · cases h
theorem fndS_not {slots : List ByteArray} {nm : ByteArray} (h : fndS slots nm = none) (hne : nm ≠ em) (i : Nat) : slots[i]? ≠ some nm := by
  intro hi
  unfold fndS at h
  rw [if_neg (by rw [emB_ne hne]; decide)] at h
  rw [if_pos] at h
  · cases h
  · rcases Nat.lt_or_ge i (idxN slots nm) with hlt | hge
    · have := idxP_lt (eqB nm) hlt hi
      rw [eqB_iff.2 rfl] at this
      cases this
    · have := (List.getElem?_eq_some_iff.1 hi).1
      omega
theorem RInv.fnd {seats : List Seat} {slots : List ByteArray} (h : RInv seats slots) (nm : ByteArray) :
    (∃ i, fndS slots nm = some i ∧ thereB seats nm = true ∧ seats[posN seats nm]? = some (nm, i)) ∨ (fndS slots nm = none ∧ thereB seats nm = false) := by
  rcases h.there nm with ⟨ht, i, h1, h2, h3⟩ | ⟨ht, h1⟩
  · left
    refine ⟨i, ?_, ht, h1⟩
    unfold fndS
    rw [if_neg (by rw [emB_ne h3]; decide)]
    have hil := (List.getElem?_eq_some_iff.1 h2).1
    have hle : idxN slots nm ≤ i := by
      rcases Nat.lt_or_ge i (idxN slots nm) with hlt | hge
      · have := idxP_lt (eqB nm) hlt h2
        rw [eqB_iff.2 rfl] at this
        cases this
      · exact hge
    have hlt : idxN slots nm < slots.length := by omega
    rw [if_pos hlt]
    have hn := eqB_iff.1 (idxP_at (eqB nm) (List.getElem?_eq_getElem hlt))
    have hm := h.ls (idxN slots nm) nm (by rw [List.getElem?_eq_getElem hlt]; exact congrArg some hn) h3
    have := h.mem_pos hm
    rw [h1] at this
    injection this with this
    injection this with _ this
    rw [this]
  · right
    exact ⟨fndS_none h1, ht⟩

/-- Put, Drop, Find, Name. -/
def putS (slots : List ByteArray) (nm : ByteArray) : (Int × Int) × List ByteArray :=
  if nameB nm = true then (match fndS slots nm with
    | some _ => ((0, 41), slots)
    | none => if freeI slots < slots.length then (((freeI slots : Int), 0), slots.set (freeI slots) nm) else ((0, 40), slots))
  else ((0, 43), slots)
def dropS (slots : List ByteArray) (nm : ByteArray) : Int × List ByteArray := match fndS slots nm with | some i => (0, slots.set i em) | none => (42, slots)
def findS (slots : List ByteArray) (nm : ByteArray) : Int × Bool := match fndS slots nm with | some i => ((i : Int), true) | none => (0, false)
def nameS (slots : List ByteArray) (x : Int) : ByteArray := if 0 ≤ x ∧ x < slots.length then slots.getD x.toNat em else em

def frI (F R : Nat) : Int := if F < R then (F : Int) else -1
set_option maxHeartbeats 1600000 in
theorem rosIndex (w : World) (g R : Nat) (slots : List ByteArray) (ho : Ob w g 4 (slots.map fun s => Value.bool (!emB s))) (hl : slots.length = R) (hR : R ≤ 1024) :
    Calls Try.prog 69 #[.slice (some ⟨g, 0, none⟩) R R, .bool false] w fun e w' => e = .returned (.int .i64 (frI (freeI slots) R)) ∧ w = w' := by
  have hc := ho.cell
  have HC := Lib.hid hc
  have HL := Lib.hid hl
  obtain ⟨F, hF⟩ : ∃ F, freeI slots = F := ⟨_, rfl⟩
  have HF := Lib.hid hF
  have hFR : F ≤ R := by rw [← hF, ← hl]; exact idxP_le _ _
  rw [hF]
  clear hc hl hF ho
  go_enter Try.func69, Try.ntmps69
  go_wp2_with fail
  go_loop [8] (fun i => ∃ k : Nat, k ≤ F ∧ i = .int .i64 k) (fun i => F + 1 - (intOf i).toNat)
  case atStart => exact ⟨0, by omega, rfl⟩
  case round =>
    obtain ⟨k, hk, rfl⟩ := hrel
    by_cases hlt : k < R
    · obtain ⟨s, hs⟩ : ∃ s, slots[k]? = some s := ⟨_, List.getElem?_eq_getElem (by rw [HL.out]; exact hlt)⟩
      have hcell : w.cell? ⟨g, k, none⟩ = some (.bool (!emB s)) := by rw [HC.out, List.getElem?_map, hs]; rfl
      by_cases hkF : k < F
      · have hs2 : emB s = false := idxP_lt emB (l := slots) (by have := HF.out; unfold freeI at this; omega) hs
        rw [hs2] at hcell
        clear hs
        go_wp2_with fail
        go_round
        case rel => exact ⟨k + 1, by omega, by go_num⟩
        case measure => simp [intOf]; omega
      · obtain rfl : k = F := by omega
        have hs2 : emB s = true := idxP_at emB (l := slots) (by have := HF.out; unfold freeI at this; rw [this]; exact hs)
        rw [hs2] at hcell
        clear hs
        go_wp2_with fail
        go_ret
        exact ⟨ret_int (by unfold frI; rw [if_pos hlt]), rfl⟩
    · obtain rfl : k = R := by omega
      obtain rfl : k = F := by omega
      go_wp2_with fail
      go_ret
      exact ⟨ret_int (by unfold frI; rw [if_neg hlt]), rfl⟩

set_option maxHeartbeats 800000 in
theorem rosCount (w : World) (rb gt gn R : Nat) (slots : List ByteArray) (seats : List Seat) (v : Value) (h : RosAt w rb gt gn R slots seats v) :
    Calls Try.prog 28 #[.pointer (some ⟨rb, 0, none⟩)] w fun e w' => e = .returned (.int .i64 seats.length) ∧ w = w' := by
  obtain ⟨A, c, rfl, -, hc1, hc2⟩ := own_shape h.hown
  have hc := h.ho.cell
  have hR1 := h.hR.1
  clear h
  go_enter Try.func28, Try.ntmps28
  go_wp2_with (go_at_call 67; refine (rosIs_some _ rb gt R (hc 1) hR1).mono ?_; rintro e w' ⟨rfl, rfl⟩)
  go_ret
  exact ⟨rfl, rfl⟩

set_option maxHeartbeats 1600000 in
theorem rosName (w : World) (rb gt gn R : Nat) (slots : List ByteArray) (seats : List Seat) (v : Value) (h : RosAt w rb gt gn R slots seats v) (x : Int) :
    Calls Try.prog 31 #[.pointer (some ⟨rb, 0, none⟩), .int .i64 x] w fun e w' => e = .returned (.tuple #[.string (nameS slots x), .bool (!emB (nameS slots x))]) ∧ w = w' := by
  have hc := h.ho.cell
  have ht := h.ht.cell
  have hn := h.hn.cell
  have hR1 := h.hR.1
  have hl := h.hl
  have HT := Lib.hid ht
  have HN := Lib.hid hn
  have HL := Lib.hid hl
  clear h ht hn hl
  by_cases h1 : x < 0
  · have e : nameS slots x = em := if_neg (by omega)
    rw [e, emB_em]
    clear e
    go_enter Try.func31, Try.ntmps31
    go_wp2_with (go_at_call 67; refine (rosIs_some _ rb gt R (hc 1) hR1).mono ?_; rintro e w' ⟨rfl, rfl⟩)
    go_ret2
    exact ⟨rfl, rfl⟩
  obtain ⟨i, rfl⟩ : ∃ i : Nat, x = i := ⟨x.toNat, by omega⟩
  clear h1
  by_cases h2 : i < R
  · obtain ⟨s, hs⟩ : ∃ s, slots[i]? = some s := ⟨_, List.getElem?_eq_getElem (by rw [HL.out]; exact h2)⟩
    have e : nameS slots i = s := by
      unfold nameS
      rw [if_pos (by have := HL.out; omega), List.getD_eq_getElem?_getD, Int.toNat_natCast, hs]; rfl
    have c1 : w.cell? ⟨gt, i, none⟩ = some (.bool (!emB s)) := by rw [HT.out, List.getElem?_map, hs]; rfl
    have c2 : w.cell? ⟨gn, i, none⟩ = some (.string s) := by rw [HN.out, List.getElem?_map, hs]; rfl
    rw [e]
    have d1 : decide ((R : Int) ≤ i) = false := by simp; omega
    clear e hs
    cases he : emB s with
    | true =>
      have hse := emB_iff.1 he
      have HSE := Lib.hid hse
      rw [he] at c1
      clear he hse
      go_enter Try.func31, Try.ntmps31
      go_wp2_with (go_at_call 67; refine (rosIs_some _ rb gt R (hc 1) hR1).mono ?_; rintro e w' ⟨rfl, rfl⟩)
      go_ret2
      rw [HSE.out]
      exact ⟨rfl, rfl⟩
    | false =>
      rw [he] at c1
      clear he
      go_enter Try.func31, Try.ntmps31
      go_wp2_with (go_at_call 67; refine (rosIs_some _ rb gt R (hc 1) hR1).mono ?_; rintro e w' ⟨rfl, rfl⟩)
      go_ret2
      exact ⟨rfl, rfl⟩
  · have e : nameS slots i = em := if_neg (by have := HL.out; omega)
    rw [e, emB_em]
    have d1 : decide ((R : Int) ≤ i) = true := by simp; omega
    clear e
    go_enter Try.func31, Try.ntmps31
    go_wp2_with (go_at_call 67; refine (rosIs_some _ rb gt R (hc 1) hR1).mono ?_; rintro e w' ⟨rfl, rfl⟩)
    go_ret2
    exact ⟨rfl, rfl⟩

end Go.Proofs.Ytjhlaifflhjafaa
