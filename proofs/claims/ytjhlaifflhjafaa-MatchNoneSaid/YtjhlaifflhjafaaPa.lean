import Derived.Test.YtjhlaifflhjafaaNz
namespace Go.Proofs.Ytjhlaifflhjafaa
section
open Go.RowKit

/-! The document's book as a list, and the sides that it makes: the plain law. -/
structure Ro where
  id : ByteArray
  side : Int
  left : Int
  price : Int
def Ro.mo (o : Ro) : Mo := ⟨o.id, o.left, o.price⟩
def roC (o : Ro) : List Value := [.string o.id, .int .i64 o.side, .int .i64 o.left, .int .i64 o.price]
theorem roC_len (o : Ro) : (roC o).length = 4 := rfl
theorem roC_one (o : Ro) : ∀ u ∈ roC o, u.oneCell' = true := by simp [roC, Value.oneCell']

theorem insM_nil (side : Int) (o : Mo) : insM side o [] = [o] := rfl
theorem insM_cons (side : Int) (o x : Mo) (l : List Mo) : insM side o (x :: l) = if btr side o.price x.price = true then o :: x :: l else x :: insM side o l := by
  unfold insM mPos idxP putAt
  cases h : btr side o.price x.price
  · simp [List.takeWhile_cons, h]
  · simp [List.takeWhile_cons, h]
theorem insM_front {side : Int} {o : Mo} {l : List Mo} (h : ∀ y ∈ l, btr side o.price y.price = true) : insM side o l = o :: l := by
  cases l with
  | nil => rfl
  | cons x l => rw [insM_cons, if_pos (h x (List.mem_cons_self ..))]
theorem insM_keep (p : Mo → Bool) {side : Int} {o : Mo} (hp : p o = true) : ∀ {l : List Mo}, Srt side l → (insM side o l).filter p = insM side o (l.filter p)
  | [], _ => by rw [insM_nil, List.filter_cons_of_pos hp]; rfl
  | x :: l, hs => by
    obtain ⟨hx, hl⟩ := List.pairwise_cons.1 hs
    rw [insM_cons]
    by_cases hb : btr side o.price x.price = true
    · rw [if_pos hb, List.filter_cons_of_pos hp]
      symm
      apply insM_front
      intro y hy
      rcases List.mem_cons.1 (List.mem_filter.1 hy).1 with rfl | hy
      · exact hb
      · exact btr_trans hb (hx y hy)
    · rw [if_neg hb]
      by_cases hpx : p x = true
      · rw [List.filter_cons_of_pos hpx, List.filter_cons_of_pos hpx, insM_cons, if_neg hb, insM_keep p hp hl]
      · rw [List.filter_cons_of_neg hpx, List.filter_cons_of_neg hpx, insM_keep p hp hl]
theorem insM_drop (p : Mo → Bool) {side : Int} {o : Mo} (hp : ¬ p o = true) : ∀ (l : List Mo), (insM side o l).filter p = l.filter p
  | [] => by rw [insM_nil, List.filter_cons_of_neg hp]
  | x :: l => by
    rw [insM_cons]
    by_cases hb : btr side o.price x.price = true
    · rw [if_pos hb, List.filter_cons_of_neg hp]
    · rw [if_neg hb]
      by_cases hpx : p x = true
      · rw [List.filter_cons_of_pos hpx, List.filter_cons_of_pos hpx, insM_drop p hp l]
      · rw [List.filter_cons_of_neg hpx, List.filter_cons_of_neg hpx, insM_drop p hp l]
theorem insM_map (g : Mo → Mo) (hg : ∀ x, (g x).price = x.price) (side : Int) (o : Mo) : ∀ (l : List Mo), (insM side o l).map g = insM side (g o) (l.map g)
  | [] => by rw [insM_nil]; rfl
  | x :: l => by
    rw [insM_cons, List.map_cons, insM_cons, hg, hg]
    by_cases hb : btr side o.price x.price = true
    · rw [if_pos hb, if_pos hb]; rfl
    · rw [if_neg hb, if_neg hb, List.map_cons, insM_map g hg side o l]
theorem insM_perm (side : Int) (o : Mo) (l : List Mo) : (insM side o l).Perm (o :: l) := by
  unfold insM putAt
  have h : (l.take (mPos side o.price l) ++ o :: l.drop (mPos side o.price l)).Perm (o :: (l.take (mPos side o.price l) ++ l.drop (mPos side o.price l))) := List.perm_middle
  rwa [List.take_append_drop] at h

/-- A side, off the list turned about. -/
def goS (side : Int) : List Ro → List Mo
  | [] => []
  | o :: r => if o.side = side then insM side o.mo (goS side r) else goS side r
def sideOf (side : Int) (L : List Ro) : List Mo := goS side L.reverse
theorem goS_srt (side : Int) : ∀ (r : List Ro), Srt side (goS side r)
  | [] => List.Pairwise.nil
  | o :: r => by
    unfold goS
    split
    · exact insM_srt _ (goS_srt side r)
    · exact goS_srt side r
theorem goS_perm (side : Int) : ∀ (r : List Ro), (goS side r).Perm ((r.filter (fun o => decide (o.side = side))).map Ro.mo)
  | [] => .refl _
  | o :: r => by
    unfold goS
    split
    · rename_i h
      rw [List.filter_cons_of_pos (by simpa using h), List.map_cons]
      exact (insM_perm _ _ _).trans ((goS_perm side r).cons _)
    · rename_i h
      rw [List.filter_cons_of_neg (by simpa using h)]
      exact goS_perm side r
theorem goS_filter (side : Int) (q : ByteArray → Bool) : ∀ (r : List Ro), goS side (r.filter (fun o => q o.id)) = (goS side r).filter (fun x => q x.id)
  | [] => rfl
  | o :: r => by
    have ih := goS_filter side q r
    by_cases hq : q o.id = true
    · rw [List.filter_cons_of_pos (p := fun o : Ro => q o.id) hq]
      unfold goS
      split
      · rw [ih]
        exact (insM_keep (fun x : Mo => q x.id) (o := o.mo) hq (goS_srt side r)).symm
      · exact ih
    · rw [List.filter_cons_of_neg (p := fun o : Ro => q o.id) hq, ih]
      conv => rhs; unfold goS
      split
      · exact (insM_drop (fun x : Mo => q x.id) (o := o.mo) hq _).symm
      · rfl
theorem goS_map (side : Int) (f : Ro → Ro) (g : Mo → Mo) (h1 : ∀ o, (f o).side = o.side) (h2 : ∀ o, (f o).mo = g o.mo) (h3 : ∀ x, (g x).price = x.price) : ∀ (r : List Ro), goS side (r.map f) = (goS side r).map g
  | [] => rfl
  | o :: r => by
    rw [List.map_cons]
    unfold goS
    rw [h1, h2, goS_map side f g h1 h2 h3 r]
    split
    · rw [insM_map g h3]
    · rfl
theorem sideOf_srt (side : Int) (L : List Ro) : Srt side (sideOf side L) := goS_srt _ _
theorem sideOf_perm (side : Int) (L : List Ro) : (sideOf side L).Perm ((L.filter (fun o => decide (o.side = side))).map Ro.mo) := by
  refine (goS_perm side L.reverse).trans ?_
  rw [List.filter_reverse]
  exact (List.reverse_perm _).map _
theorem sideOf_mem {side : Int} {L : List Ro} {x : Mo} : x ∈ sideOf side L ↔ ∃ o ∈ L, o.side = side ∧ o.mo = x := by
  rw [(sideOf_perm side L).mem_iff]
  constructor
  · intro h
    obtain ⟨o, ho, e⟩ := List.mem_map.1 h
    obtain ⟨h1, h2⟩ := List.mem_filter.1 ho
    exact ⟨o, h1, by simpa using h2, e⟩
  · rintro ⟨o, ho, h1, h2⟩
    exact List.mem_map.2 ⟨o, List.mem_filter.2 ⟨ho, by simpa using h1⟩, h2⟩
theorem sideOf_snoc (side : Int) (L : List Ro) (o : Ro) : sideOf side (L ++ [o]) = if o.side = side then insM side o.mo (sideOf side L) else sideOf side L := by
  unfold sideOf
  rw [List.reverse_append]
  rfl
theorem sideOf_filter (side : Int) (q : ByteArray → Bool) (L : List Ro) : sideOf side (L.filter (fun o => q o.id)) = (sideOf side L).filter (fun x => q x.id) := by
  unfold sideOf
  rw [← List.filter_reverse, goS_filter]
theorem sideOf_map (side : Int) (f : Ro → Ro) (g : Mo → Mo) (h1 : ∀ o, (f o).side = o.side) (h2 : ∀ o, (f o).mo = g o.mo) (h3 : ∀ x, (g x).price = x.price) (L : List Ro) : sideOf side (L.map f) = (sideOf side L).map g := by
  unfold sideOf
  rw [← List.map_reverse, goS_map side f g h1 h2 h3]

/-! One order of the list, by its name. -/
theorem eqB_false {a b : ByteArray} : eqB a b = false ↔ b ≠ a := by
  rw [← Bool.not_eq_true, eqB_iff]
theorem uniq_side {L : List Ro} (hu : (L.map (·.id)).Nodup) (side : Int) : ((sideOf side L).map (·.id)).Nodup := by
  have h1 : ((sideOf side L).map (·.id)).Perm ((L.filter (fun o => decide (o.side = side))).map (·.id)) := by
    have := (sideOf_perm side L).map (·.id)
    rw [List.map_map] at this
    exact this
  exact h1.symm.nodup (List.Pairwise.sublist (List.filter_sublist.map _) hu)
theorem uniq_split {L : List Ro} {i : Nat} {b : Ro} (hu : (L.map (·.id)).Nodup) (hb : L[i]? = some b) : (∀ o ∈ L.take i, o.id ≠ b.id) ∧ ∀ o ∈ L.drop (i + 1), o.id ≠ b.id := by
  have hs := split_at hb
  rw [hs, List.map_append, List.map_cons] at hu
  have h2 := List.nodup_append.1 hu
  constructor
  · intro o ho e
    exact h2.2.2 o.id (List.mem_map_of_mem ho) b.id (List.mem_cons_self ..) e
  · intro o ho e
    exact (List.nodup_cons.1 h2.2.1).1 (e ▸ List.mem_map_of_mem ho)
theorem cut_filter {L : List Ro} {i : Nat} {b : Ro} (hu : (L.map (·.id)).Nodup) (hb : L[i]? = some b) : cutAt i L = L.filter (fun o => !eqB b.id o.id) := by
  obtain ⟨h1, h2⟩ := uniq_split hu hb
  conv => rhs; rw [split_at hb]
  rw [List.filter_append, List.filter_cons_of_neg (by simp [eqB_iff])]
  unfold cutAt
  rw [List.filter_eq_self.2 (fun o ho => by simp [eqB_false.2 (h1 o ho)]), List.filter_eq_self.2 (fun o ho => by simp [eqB_false.2 (h2 o ho)])]
def setR (z : ByteArray) (v : Int) (o : Ro) : Ro := if eqB z o.id = true then { o with left := v } else o
def setM (z : ByteArray) (v : Int) (x : Mo) : Mo := if eqB z x.id = true then { x with left := v } else x
theorem set_map {L : List Ro} {i : Nat} {b : Ro} (hu : (L.map (·.id)).Nodup) (hb : L[i]? = some b) (v : Int) : L.set i { b with left := v } = L.map (setR b.id v) := by
  obtain ⟨h1, h2⟩ := uniq_split hu hb
  have hi := (List.getElem?_eq_some_iff.1 hb).1
  conv => rhs; rw [split_at hb]
  rw [List.map_append, List.map_cons, List.set_eq_take_append_cons_drop, if_pos hi]
  have e1 : (L.take i).map (setR b.id v) = L.take i := by
    conv => rhs; rw [← List.map_id (L.take i)]
    apply List.map_congr_left
    intro o ho
    unfold setR
    rw [if_neg (by rw [eqB_false.2 (h1 o ho)]; decide)]
    rfl
  have e2 : (L.drop (i + 1)).map (setR b.id v) = L.drop (i + 1) := by
    conv => rhs; rw [← List.map_id (L.drop (i + 1))]
    apply List.map_congr_left
    intro o ho
    unfold setR
    rw [if_neg (by rw [eqB_false.2 (h2 o ho)]; decide)]
    rfl
  have e3 : setR b.id v b = { b with left := v } := if_pos (eqB_iff.2 rfl)
  rw [e1, e2, e3]
theorem sideOf_set {L : List Ro} {i : Nat} {b : Ro} (hu : (L.map (·.id)).Nodup) (hb : L[i]? = some b) (v : Int) (side : Int) : sideOf side (L.set i { b with left := v }) = (sideOf side L).map (setM b.id v) := by
  rw [set_map hu hb]
  refine sideOf_map side _ _ (fun o => ?_) (fun o => ?_) (fun x => ?_) L
  · unfold setR; split <;> rfl
  · unfold setR setM
    by_cases h : eqB b.id o.id = true
    · rw [if_pos h, if_pos (show eqB b.id o.mo.id = true from h)]; rfl
    · rw [if_neg h, if_neg (show ¬ eqB b.id o.mo.id = true from h)]
  · unfold setM; split <;> rfl
theorem sideOf_cut {L : List Ro} {i : Nat} {b : Ro} (hu : (L.map (·.id)).Nodup) (hb : L[i]? = some b) (side : Int) : sideOf side (cutAt i L) = (sideOf side L).filter (fun x => !eqB b.id x.id) := by
  rw [cut_filter hu hb]
  exact sideOf_filter side (fun z => !eqB b.id z) L
/-- On a list of names, each once: the one at the head, cut and set. -/
theorem head_cut {x : Mo} {t : List Mo} (hu : ((x :: t).map (·.id)).Nodup) : (x :: t).filter (fun y => !eqB x.id y.id) = t := by
  rw [List.map_cons] at hu
  have h := (List.nodup_cons.1 hu).1
  rw [List.filter_cons_of_neg (by simp [eqB_iff])]
  exact List.filter_eq_self.2 (fun y hy => by
    have : y.id ≠ x.id := fun e => h (e ▸ List.mem_map_of_mem hy)
    simp [eqB_false.2 this])
theorem setM_none {z : ByteArray} {v : Int} {t : List Mo} (h : ¬ z ∈ t.map (·.id)) : t.map (setM z v) = t := by
  conv => rhs; rw [← List.map_id t]
  apply List.map_congr_left
  intro y hy
  unfold setM
  have : y.id ≠ z := fun e => h (e ▸ List.mem_map_of_mem hy)
  rw [if_neg (by rw [eqB_false.2 this]; decide)]
  rfl
theorem head_set {x : Mo} {t : List Mo} (hu : ((x :: t).map (·.id)).Nodup) (v : Int) : (x :: t).map (setM x.id v) = { x with left := v } :: t := by
  rw [List.map_cons] at hu
  rw [List.map_cons, setM_none (List.nodup_cons.1 hu).1]
  rw [show setM x.id v x = { x with left := v } from if_pos (eqB_iff.2 rfl)]
theorem cut_none {z : ByteArray} {t : List Mo} (h : ¬ z ∈ t.map (·.id)) : t.filter (fun y => !eqB z y.id) = t :=
  List.filter_eq_self.2 (fun y hy => by
    have : y.id ≠ z := fun e => h (e ▸ List.mem_map_of_mem hy)
    simp [eqB_false.2 this])
end

section
open Go.RowKit

/-! The document's steps on its list, and that the sides do the same. -/
def rIdx (L : List Ro) (id : ByteArray) : Nat := idxP (fun o => eqB id o.id) L
def firU (side : Int) (L : List Ro) (at_ : Option Nat) (k : Nat) : Option Nat :=
  match L[k]? with
  | none => at_
  | some o => if o.side = side then
      (match at_ with
      | none => some k
      | some a => match L[a]? with
        | none => at_
        | some b => if btr side o.price b.price = true then some k else at_)
    else at_
/-- The first one of a side among the first k. -/
def firK (side : Int) (L : List Ro) : Nat → Option Nat
  | 0 => none
  | k + 1 => firU side L (firK side L k) k
theorem firK_head (side : Int) (L : List Ro) : ∀ k, k ≤ L.length → match sideOf side (L.take k) with
    | [] => firK side L k = none
    | x :: _ => ∃ i b, firK side L k = some i ∧ i < k ∧ L[i]? = some b ∧ b.side = side ∧ b.mo = x
  | 0, _ => by
    rw [List.take_zero]
    exact rfl
  | k + 1, hk => by
    have ih := firK_head side L k (by omega)
    obtain ⟨o, ho⟩ : ∃ o, L[k]? = some o := ⟨_, List.getElem?_eq_getElem (by omega)⟩
    have e : L.take (k + 1) = L.take k ++ [o] := by rw [List.take_add_one, ho]; rfl
    rw [e, sideOf_snoc]
    unfold firK firU
    rw [ho]
    simp only
    by_cases hs : o.side = side
    · rw [if_pos hs, if_pos hs]
      cases hS : sideOf side (L.take k) with
      | nil =>
        rw [hS] at ih
        simp only at ih
        rw [insM_nil, ih]
        exact ⟨k, o, rfl, by omega, ho, hs, rfl⟩
      | cons x t =>
        rw [hS] at ih
        simp only at ih
        obtain ⟨i, b, h1, h2, h3, h4, h5⟩ := ih
        rw [h1, insM_cons]
        simp only
        rw [h3]
        simp only
        have hp : b.price = x.price := by rw [← h5]; rfl
        rw [hp]
        by_cases hb : btr side o.price x.price = true
        · rw [if_pos hb, if_pos (show btr side o.mo.price x.price = true from hb)]
          exact ⟨k, o, rfl, by omega, ho, hs, rfl⟩
        · rw [if_neg hb, if_neg (show ¬ btr side o.mo.price x.price = true from hb)]
          exact ⟨i, b, rfl, by omega, h3, h4, h5⟩
    · rw [if_neg hs, if_neg hs]
      cases hS : sideOf side (L.take k) with
      | nil => rw [hS] at ih; exact ih
      | cons x t =>
        rw [hS] at ih
        obtain ⟨i, b, h1, h2, h3⟩ := ih
        exact ⟨i, b, h1, by omega, h3⟩
def firL (side : Int) (L : List Ro) : Option Nat := firK side L L.length
theorem firL_nil {side : Int} {L : List Ro} (h : sideOf side L = []) : firL side L = none := by
  have := firK_head side L L.length (Nat.le_refl _)
  rw [List.take_length, h] at this
  exact this
theorem firL_cons {side : Int} {L : List Ro} {x : Mo} {t : List Mo} (h : sideOf side L = x :: t) : ∃ i b, firL side L = some i ∧ L[i]? = some b ∧ b.side = side ∧ b.mo = x := by
  have := firK_head side L L.length (Nat.le_refl _)
  rw [List.take_length, h] at this
  obtain ⟨i, b, h1, -, h2⟩ := this
  exact ⟨i, b, h1, h2⟩

/-- An order that comes, of the document (f: how often it may still look). -/
def comeR (nm : ByteArray) (side p : Int) : Nat → Int → List Ro → List Tr → List Ro × List Tr
  | 0, _, L, out => (L, out)
  | f + 1, left, L, out =>
    if 0 < left then
      match firL (3 - side) L with
      | none => (L ++ [⟨nm, side, left, p⟩], out)
      | some i => match L[i]? with
        | none => (L, out)
        | some b => if goodB side p b.price = false then (L ++ [⟨nm, side, left, p⟩], out)
          else if left < b.left then (L.set i { b with left := b.left - left }, out ++ [⟨b.id, nm, left, b.price⟩])
          else comeR nm side p f (left - b.left) (cutAt i L) (out ++ [⟨b.id, nm, b.left, b.price⟩])
    else (L, out)
/-- What holds of the document's list. -/
structure RoI (L : List Ro) : Prop where
  u : (L.map (·.id)).Nodup
  s : ∀ o ∈ L, o.side = 1 ∨ o.side = 2
theorem RoI.cut {L : List Ro} (h : RoI L) (i : Nat) : RoI (cutAt i L) := by
  have hs : (cutAt i L).Sublist L := by
    unfold cutAt
    have h1 : (L.take i ++ L.drop (i + 1)).Sublist (L.take i ++ L.drop i) := (List.Sublist.refl _).append (by rw [← List.drop_drop]; exact List.drop_sublist _ _)
    rwa [List.take_append_drop] at h1
  exact ⟨List.Pairwise.sublist (hs.map _) h.u, fun o ho => h.s o (hs.subset ho)⟩
theorem RoI.set {L : List Ro} (h : RoI L) {i : Nat} {b : Ro} (hb : L[i]? = some b) (v : Int) : RoI (L.set i { b with left := v }) := by
  rw [set_map h.u hb]
  refine ⟨?_, fun o ho => ?_⟩
  · rw [List.map_map]
    have : ((fun o : Ro => o.id) ∘ setR b.id v) = fun o => o.id := by
      funext o
      simp only [Function.comp, setR]
      split <;> rfl
    rw [this]
    exact h.u
  · obtain ⟨o', ho', rfl⟩ := List.mem_map.1 ho
    have := h.s o' ho'
    unfold setR
    split
    · exact this
    · exact this
theorem RoI.snoc {L : List Ro} (h : RoI L) (o : Ro) (hn : ¬ o.id ∈ L.map (·.id)) (hs : o.side = 1 ∨ o.side = 2) : RoI (L ++ [o]) := by
  refine ⟨?_, fun x hx => ?_⟩
  · rw [List.map_append]
    refine List.nodup_append.2 ⟨h.u, by simp, fun a ha b hb e => ?_⟩
    rw [List.map_cons, List.map_nil, List.mem_singleton] at hb
    subst hb
    subst e
    exact hn ha
  · rcases List.mem_append.1 hx with hx | hx
    · exact h.s x hx
    · rw [List.mem_singleton] at hx
      subst hx
      exact hs
theorem ids_cutR {L : List Ro} (i : Nat) {z : ByteArray} (h : ¬ z ∈ L.map (·.id)) : ¬ z ∈ (cutAt i L).map (·.id) := by
  intro hz
  obtain ⟨o, ho, e⟩ := List.mem_map.1 hz
  refine h (List.mem_map.2 ⟨o, ?_, e⟩)
  unfold cutAt at ho
  rcases List.mem_append.1 ho with ho | ho
  · exact List.mem_of_mem_take ho
  · exact List.mem_of_mem_drop ho
theorem side_not {L : List Ro} {i : Nat} {b : Ro} (h : RoI L) (hb : L[i]? = some b) (side : Int) (hne : b.side ≠ side) : ¬ b.id ∈ (sideOf side L).map (·.id) := by
  intro hz
  obtain ⟨x, hx, e⟩ := List.mem_map.1 hz
  obtain ⟨o, ho, h1, h2⟩ := sideOf_mem.1 hx
  obtain ⟨j, hj⟩ := List.mem_iff_getElem?.1 ho
  have e1 : o.id = b.id := by rw [← e, ← h2]; rfl
  have hji : j = i := by
    have hjl := (List.getElem?_eq_some_iff.1 hj).1
    have hil := (List.getElem?_eq_some_iff.1 hb).1
    have a1 : (L.map (·.id))[j]? = some b.id := by rw [List.getElem?_map, hj]; simp [e1]
    have a2 : (L.map (·.id))[i]? = some b.id := by rw [List.getElem?_map, hb]; rfl
    exact (List.getElem?_inj (by simpa using hjl) h.u).1 (a1.trans a2.symm)
  subst hji
  rw [hb] at hj
  injection hj with hj
  subst hj
  exact hne h1
theorem meetL_halt (side : Int) (nm : ByteArray) (p : Int) (left : Int) (l : List Mo) (out : List Tr) (h : ¬ 0 < left) : meetL side nm p left l out = (left, l, out) := by
  cases l with
  | nil => rfl
  | cons x l => unfold meetL; rw [if_neg (fun hh => h hh.1)]
theorem come_sim (nm : ByteArray) (side p : Int) (hsd : side = 1 ∨ side = 2) : ∀ (f : Nat) (left : Int) (L : List Ro) (out : List Tr), L.length < f → RoI L → ¬ nm ∈ L.map (·.id) →
    (comeR nm side p f left L out).2 = (meetL side nm p left (sideOf (3 - side) L) out).2.2 ∧
    sideOf (3 - side) (comeR nm side p f left L out).1 = (meetL side nm p left (sideOf (3 - side) L) out).2.1 ∧
    sideOf side (comeR nm side p f left L out).1 = (if 0 < (meetL side nm p left (sideOf (3 - side) L) out).1 then insM side ⟨nm, (meetL side nm p left (sideOf (3 - side) L) out).1, p⟩ (sideOf side L) else sideOf side L) ∧
    RoI (comeR nm side p f left L out).1
  | 0, left, L, out, hf, _, _ => by omega
  | f + 1, left, L, out, hf, hI, hn => by
    have hne : ¬ side = 3 - side := by omega
    unfold comeR
    by_cases h0 : 0 < left
    · rw [if_pos h0]
      cases hS : sideOf (3 - side) L with
      | nil =>
        have hR : meetL side nm p left [] out = (left, [], out) := rfl
        rw [firL_nil hS, hR]
        simp only
        refine ⟨trivial, ?_, ?_, hI.snoc _ hn hsd⟩
        · rw [sideOf_snoc, if_neg (by exact hne), hS]
        · rw [sideOf_snoc, if_pos (by rfl), if_pos h0]; rfl
      | cons x t =>
        obtain ⟨i, b, h1, h2, h3, h4⟩ := firL_cons hS
        have hu := uniq_side hI.u (3 - side)
        rw [hS] at hu
        have hid : x.id = b.id := by rw [← h4]; rfl
        have hpr : x.price = b.price := by rw [← h4]; rfl
        have hlf : x.left = b.left := by rw [← h4]; rfl
        have hno := side_not hI h2 side (by rw [h3]; exact fun e => hne e.symm)
        rw [h1]
        simp only
        rw [h2]
        simp only
        cases hg : goodB side p b.price with
        | false =>
          have hR : meetL side nm p left (x :: t) out = (left, x :: t, out) := by
            unfold meetL
            rw [if_neg (fun hh => by rw [hpr, hg] at hh; cases hh.2)]
          rw [hR, if_pos (by rfl)]
          simp only
          refine ⟨trivial, ?_, ?_, hI.snoc _ hn hsd⟩
          · rw [sideOf_snoc, if_neg (by exact hne), hS]
          · rw [sideOf_snoc, if_pos (by rfl), if_pos h0]; rfl
        | true =>
          rw [if_neg (fun h => by cases h)]
          by_cases hl : left < b.left
          · have hR : meetL side nm p left (x :: t) out = (0, { x with left := x.left - left } :: t, out ++ [⟨x.id, nm, left, x.price⟩]) := by
              unfold meetL
              rw [if_pos ⟨h0, by rw [hpr, hg]⟩, if_pos (by rw [hlf]; exact hl)]
            rw [hR, if_pos hl]
            simp only
            refine ⟨by rw [hid, hpr], ?_, ?_, hI.set h2 _⟩
            · rw [sideOf_set hI.u h2, hS, ← hid, head_set hu, hlf]
            · rw [if_neg (by omega), sideOf_set hI.u h2, setM_none hno]
          · have hR : meetL side nm p left (x :: t) out = meetL side nm p (left - x.left) t (out ++ [⟨x.id, nm, x.left, x.price⟩]) := by
              conv => lhs; unfold meetL
              rw [if_pos ⟨h0, by rw [hpr, hg]⟩, if_neg (by rw [hlf]; exact hl)]
            rw [hR, if_neg hl]
            have hil := (List.getElem?_eq_some_iff.1 h2).1
            have hc := cutAt_len hil
            have e1 : sideOf (3 - side) (cutAt i L) = t := by rw [sideOf_cut hI.u h2, hS, ← hid, head_cut hu]
            have e2 : sideOf side (cutAt i L) = sideOf side L := by rw [sideOf_cut hI.u h2, cut_none hno]
            have ih := come_sim nm side p hsd f (left - b.left) (cutAt i L) (out ++ [⟨b.id, nm, b.left, b.price⟩]) (by omega) (hI.cut i) (ids_cutR i hn)
            rw [e1, e2] at ih
            rw [hid, hlf, hpr]
            exact ih
    · rw [if_neg h0, meetL_halt _ _ _ _ _ _ h0]
      exact ⟨rfl, rfl, by simp only; rw [if_neg h0], hI⟩
end

section
open Go.RowKit

theorem mo_split {L : List Mo} {i : Nat} {b : Mo} (hu : (L.map (·.id)).Nodup) (hb : L[i]? = some b) : (∀ o ∈ L.take i, o.id ≠ b.id) ∧ ∀ o ∈ L.drop (i + 1), o.id ≠ b.id := by
  have hs := split_at hb
  rw [hs, List.map_append, List.map_cons] at hu
  have h2 := List.nodup_append.1 hu
  constructor
  · intro o ho e
    exact h2.2.2 o.id (List.mem_map_of_mem ho) b.id (List.mem_cons_self ..) e
  · intro o ho e
    exact (List.nodup_cons.1 h2.2.1).1 (e ▸ List.mem_map_of_mem ho)
theorem mo_cut {L : List Mo} {i : Nat} {b : Mo} (hu : (L.map (·.id)).Nodup) (hb : L[i]? = some b) : cutAt i L = L.filter (fun o => !eqB b.id o.id) := by
  obtain ⟨h1, h2⟩ := mo_split hu hb
  conv => rhs; rw [split_at hb]
  rw [List.filter_append, List.filter_cons_of_neg (by simp [eqB_iff])]
  unfold cutAt
  rw [List.filter_eq_self.2 (fun o ho => by simp [eqB_false.2 (h1 o ho)]), List.filter_eq_self.2 (fun o ho => by simp [eqB_false.2 (h2 o ho)])]
theorem mo_set {L : List Mo} {i : Nat} {b : Mo} (hu : (L.map (·.id)).Nodup) (hb : L[i]? = some b) (v : Int) : L.set i { b with left := v } = L.map (setM b.id v) := by
  obtain ⟨h1, h2⟩ := mo_split hu hb
  have hi := (List.getElem?_eq_some_iff.1 hb).1
  conv => rhs; rw [split_at hb]
  rw [List.map_append, List.map_cons, List.set_eq_take_append_cons_drop, if_pos hi]
  rw [setM_none (fun hz => by obtain ⟨o, ho, e⟩ := List.mem_map.1 hz; exact h1 o ho e), setM_none (fun hz => by obtain ⟨o, ho, e⟩ := List.mem_map.1 hz; exact h2 o ho e)]
  rw [show setM b.id v b = { b with left := v } from if_pos (eqB_iff.2 rfl)]
theorem mo_uniq {l : List Mo} (hu : (l.map (·.id)).Nodup) {x y : Mo} (hx : x ∈ l) (hy : y ∈ l) (e : x.id = y.id) : x = y := by
  obtain ⟨i, hi⟩ := List.mem_iff_getElem?.1 hx
  obtain ⟨j, hj⟩ := List.mem_iff_getElem?.1 hy
  have a1 : (l.map (·.id))[i]? = some y.id := by rw [List.getElem?_map, hi]; simp [e]
  have a2 : (l.map (·.id))[j]? = some y.id := by rw [List.getElem?_map, hj]; rfl
  have hil := (List.getElem?_eq_some_iff.1 hi).1
  have : i = j := (List.getElem?_inj (by simpa using hil) hu).1 (a1.trans a2.symm)
  subst this
  rw [hi] at hj
  injection hj
theorem mIdx_at {l : List Mo} (hu : (l.map (·.id)).Nodup) {x : Mo} (hx : x ∈ l) : l[mIdx l x.id]? = some x := by
  cases h : l[mIdx l x.id]? with
  | none => exact absurd (List.mem_map_of_mem hx) (mIdx_none h)
  | some y => rw [mo_uniq hu (List.mem_of_getElem? h) hx (mIdx_id h)]
theorem mIdx_not {l : List Mo} {id : ByteArray} (h : ¬ id ∈ l.map (·.id)) : l[mIdx l id]? = none := by
  cases h2 : l[mIdx l id]? with
  | none => rfl
  | some y => exact absurd (by rw [← mIdx_id h2]; exact List.mem_map_of_mem (List.mem_of_getElem? h2)) h
theorem rIdx_id {L : List Ro} {id : ByteArray} {o : Ro} (h : L[rIdx L id]? = some o) : o.id = id := eqB_iff.1 (idxP_at (fun o : Ro => eqB id o.id) h)
theorem rIdx_none {L : List Ro} {id : ByteArray} (h : L[rIdx L id]? = none) : ¬ id ∈ L.map (·.id) := by
  intro hm
  obtain ⟨x, hx, rfl⟩ := List.mem_map.1 hm
  obtain ⟨j, hj⟩ := List.mem_iff_getElem?.1 hx
  have hl := idxP_le (fun o : Ro => eqB x.id o.id) L
  have hn : L.length ≤ rIdx L x.id := List.getElem?_eq_none_iff.1 h
  have hjl := (List.getElem?_eq_some_iff.1 hj).1
  have := idxP_lt (fun o : Ro => eqB x.id o.id) (l := L) (j := j) (x := x) (by unfold rIdx at hn; omega) hj
  rw [eqB_iff.2 rfl] at this
  cases this

/-- The sides are the list's. -/
structure RSim (S : Sd) (L : List Ro) : Prop where
  s1 : S.1 = sideOf 1 L
  s2 : S.2 = sideOf 2 L
  i : RoI L
theorem RSim.empty : RSim ([], []) [] := ⟨rfl, rfl, List.nodup_nil, fun _ h => (by cases h)⟩
theorem RSim.found1 {S : Sd} {L : List Ro} (h : RSim S L) {nm : ByteArray} {o : Ro} (ho : L[rIdx L nm]? = some o) (hs : o.side = 1) : S.1[mIdx S.1 nm]? = some o.mo := by
  have hid := rIdx_id ho
  have hm : o.mo ∈ S.1 := by rw [h.s1]; exact sideOf_mem.2 ⟨o, List.mem_of_getElem? ho, hs, rfl⟩
  have := mIdx_at (by rw [h.s1]; exact uniq_side h.i.u 1) hm
  rwa [show o.mo.id = nm from hid] at this
theorem RSim.found2 {S : Sd} {L : List Ro} (h : RSim S L) {nm : ByteArray} {o : Ro} (ho : L[rIdx L nm]? = some o) (hs : o.side = 2) : S.1[mIdx S.1 nm]? = none ∧ S.2[mIdx S.2 nm]? = some o.mo := by
  have hid := rIdx_id ho
  have hm : o.mo ∈ S.2 := by rw [h.s2]; exact sideOf_mem.2 ⟨o, List.mem_of_getElem? ho, hs, rfl⟩
  have := mIdx_at (by rw [h.s2]; exact uniq_side h.i.u 2) hm
  rw [show o.mo.id = nm from hid] at this
  refine ⟨mIdx_not ?_, this⟩
  rw [h.s1, ← hid]
  exact side_not h.i ho 1 (by omega)
theorem RSim.found0 {S : Sd} {L : List Ro} (h : RSim S L) {nm : ByteArray} (ho : L[rIdx L nm]? = none) : S.1[mIdx S.1 nm]? = none ∧ S.2[mIdx S.2 nm]? = none := by
  have hn := rIdx_none ho
  have hh : ∀ side, ¬ nm ∈ (sideOf side L).map (·.id) := fun side hz => by
    obtain ⟨x, hx, e⟩ := List.mem_map.1 hz
    obtain ⟨o, ho, -, h2⟩ := sideOf_mem.1 hx
    exact hn (List.mem_map.2 ⟨o, ho, by rw [← e, ← h2]; rfl⟩)
  exact ⟨mIdx_not (by rw [h.s1]; exact hh 1), mIdx_not (by rw [h.s2]; exact hh 2)⟩
theorem RSim.left {S : Sd} {L : List Ro} (h : RSim S L) (nm : ByteArray) : leftM S nm = match L[rIdx L nm]? with
    | some o => (o.left, true)
    | none => (0, false) := by
  unfold leftM
  cases ho : L[rIdx L nm]? with
  | none =>
    obtain ⟨a, b⟩ := h.found0 ho
    rw [a]; simp only; rw [b]
  | some o =>
    rcases h.i.s o (List.mem_of_getElem? ho) with hs | hs
    · rw [h.found1 ho hs]; rfl
    · obtain ⟨a, b⟩ := h.found2 ho hs
      rw [a]; simp only; rw [b]; rfl
theorem RSim.found {S : Sd} {L : List Ro} (h : RSim S L) (nm : ByteArray) : foundB S nm = decide (rIdx L nm < L.length) := by
  unfold foundB
  rcases find_cases S nm with ⟨o, h0, hf⟩ | ⟨o, h0, h1, hf⟩ | ⟨h0, h1, hf⟩
  · rw [hf]
    cases ho : L[rIdx L nm]? with
    | none => rw [(h.found0 ho).1] at h0; cases h0
    | some o => rw [decide_eq_true (List.getElem?_eq_some_iff.1 ho).1]; simp
  · rw [hf]
    cases ho : L[rIdx L nm]? with
    | none => rw [(h.found0 ho).2] at h1; cases h1
    | some o => rw [decide_eq_true (List.getElem?_eq_some_iff.1 ho).1]; simp
  · rw [hf]
    cases ho : L[rIdx L nm]? with
    | none =>
      have hle := List.getElem?_eq_none_iff.1 ho
      rw [decide_eq_false (Nat.not_lt.2 hle)]; rfl
    | some o =>
      rcases h.i.s o (List.mem_of_getElem? ho) with hs | hs
      · rw [h.found1 ho hs] at h0; cases h0
      · rw [(h.found2 ho hs).2] at h1; cases h1
theorem side_len : ∀ (L : List Ro), (∀ o ∈ L, o.side = 1 ∨ o.side = 2) → (L.filter (fun o => decide (o.side = 1))).length + (L.filter (fun o => decide (o.side = 2))).length = L.length
  | [], _ => rfl
  | o :: L, h => by
    have ih := side_len L (fun x hx => h x (List.mem_cons_of_mem _ hx))
    rcases h o (List.mem_cons_self ..) with hs | hs
    · rw [List.filter_cons_of_pos (by simpa using hs), List.filter_cons_of_neg (by simp [hs])]
      simp only [List.length_cons]; omega
    · rw [List.filter_cons_of_neg (by simp [hs]), List.filter_cons_of_pos (by simpa using hs)]
      simp only [List.length_cons]; omega
theorem RSim.len {S : Sd} {L : List Ro} (h : RSim S L) : S.1.length + S.2.length = L.length := by
  rw [h.s1, h.s2, (sideOf_perm 1 L).length_eq, (sideOf_perm 2 L).length_eq, List.length_map, List.length_map]
  exact side_len L h.i.s

def addR (L : List Ro) (nm : ByteArray) (side qty pr : Int) : (List Tr × Int) × List Ro :=
  if nameB nm = false then (([], 43), L)
  else if okB side qty pr = false then (([], 2), L)
  else if rIdx L nm < L.length then (([], 41), L)
  else if 512 ≤ L.length then (([], 40), L)
  else (((comeR nm side pr (L.length + 1) qty L []).2, 0), (comeR nm side pr (L.length + 1) qty L []).1)
def canR (L : List Ro) (nm : ByteArray) : (Int × Int) × List Ro :=
  match L[rIdx L nm]? with
  | some o => ((o.left, 0), cutAt (rIdx L nm) L)
  | none => ((0, 42), L)
def repR (L : List Ro) (nm : ByteArray) (qty pr : Int) : (List Tr × Int) × List Ro :=
  match L[rIdx L nm]? with
  | none => (([], 42), L)
  | some o => if (inB qty 1 1099511627776 && inB pr 1 1099511627776) = false then (([], 2), L)
    else if pr = o.price ∧ qty ≤ o.left then (([], 0), L.set (rIdx L nm) { o with left := qty })
    else (((comeR nm o.side pr ((cutAt (rIdx L nm) L).length + 1) qty (cutAt (rIdx L nm) L) []).2, 0), (comeR nm o.side pr ((cutAt (rIdx L nm) L).length + 1) qty (cutAt (rIdx L nm) L) []).1)
theorem meet_sim {S : Sd} {L : List Ro} (h : RSim S L) (sd : Nat) (hsd : sd = 0 ∨ sd = 1) (nm : ByteArray) (hn : ¬ nm ∈ L.map (·.id)) (left p : Int) :
    (meetM sd S nm left p).1 = (comeR nm ((sd + 1 : Nat) : Int) p (L.length + 1) left L []).2 ∧ RSim (meetM sd S nm left p).2 (comeR nm ((sd + 1 : Nat) : Int) p (L.length + 1) left L []).1 := by
  obtain ⟨c1, c2, c3, c4⟩ := come_sim nm ((sd + 1 : Nat) : Int) p (by omega) (L.length + 1) left L [] (by omega) h.i hn
  rcases hsd with rfl | rfl
  · have e : sideOf (3 - ((0 + 1 : Nat) : Int)) L = S.2 := by rw [h.s2]; rfl
    have e1 : sideOf ((0 + 1 : Nat) : Int) L = S.1 := by rw [h.s1]; rfl
    rw [e] at c1 c2 c3
    rw [e1] at c3
    refine ⟨c1.symm, ?_⟩
    have em : (meetM 0 S nm left p).2 = if 0 < (meetL ((0 + 1 : Nat) : Int) nm p left S.2 []).1 then (insM ((0 + 1 : Nat) : Int) ⟨nm, (meetL ((0 + 1 : Nat) : Int) nm p left S.2 []).1, p⟩ S.1, (meetL ((0 + 1 : Nat) : Int) nm p left S.2 []).2.1) else (S.1, (meetL ((0 + 1 : Nat) : Int) nm p left S.2 []).2.1) := rfl
    rw [em]
    generalize meetL ((0 + 1 : Nat) : Int) nm p left S.2 [] = R at *
    generalize comeR nm ((0 + 1 : Nat) : Int) p (L.length + 1) left L [] = C at *
    by_cases h0 : 0 < R.1
    · rw [if_pos h0] at c3 ⊢
      exact ⟨c3.symm, c2.symm, c4⟩
    · rw [if_neg h0] at c3 ⊢
      exact ⟨c3.symm, c2.symm, c4⟩
  · have e : sideOf (3 - ((1 + 1 : Nat) : Int)) L = S.1 := by rw [h.s1]; rfl
    have e1 : sideOf ((1 + 1 : Nat) : Int) L = S.2 := by rw [h.s2]; rfl
    rw [e] at c1 c2 c3
    rw [e1] at c3
    refine ⟨c1.symm, ?_⟩
    have em : (meetM 1 S nm left p).2 = if 0 < (meetL ((1 + 1 : Nat) : Int) nm p left S.1 []).1 then ((meetL ((1 + 1 : Nat) : Int) nm p left S.1 []).2.1, insM ((1 + 1 : Nat) : Int) ⟨nm, (meetL ((1 + 1 : Nat) : Int) nm p left S.1 []).1, p⟩ S.2) else ((meetL ((1 + 1 : Nat) : Int) nm p left S.1 []).2.1, S.2) := rfl
    rw [em]
    generalize meetL ((1 + 1 : Nat) : Int) nm p left S.1 [] = R at *
    generalize comeR nm ((1 + 1 : Nat) : Int) p (L.length + 1) left L [] = C at *
    by_cases h0 : 0 < R.1
    · rw [if_pos h0] at c3 ⊢
      exact ⟨c2.symm, c3.symm, c4⟩
    · rw [if_neg h0] at c3 ⊢
      exact ⟨c2.symm, c3.symm, c4⟩
theorem add_sim {S : Sd} {L : List Ro} (h : RSim S L) (nm : ByteArray) (side qty pr : Int) : (addM S nm side qty pr).1 = (addR L nm side qty pr).1 ∧ RSim (addM S nm side qty pr).2 (addR L nm side qty pr).2 := by
  unfold addM addR
  split
  · exact ⟨rfl, h⟩
  · split
    · exact ⟨rfl, h⟩
    · rename_i hok
      have hin := okB_iff.1 (by simpa using hok)
      rw [h.found, h.len]
      by_cases hf : rIdx L nm < L.length
      · rw [if_pos (decide_eq_true hf), if_pos hf]
        exact ⟨rfl, h⟩
      · rw [if_neg (by rw [decide_eq_false hf]; decide), if_neg hf]
        split
        · exact ⟨rfl, h⟩
        · have hn := rIdx_none (List.getElem?_eq_none_iff.2 (Nat.not_lt.1 hf))
          have hsd : side.toNat - 1 = 0 ∨ side.toNat - 1 = 1 := by omega
          have hsd2 : ((side.toNat - 1 + 1 : Nat) : Int) = side := by omega
          have := meet_sim h (side.toNat - 1) hsd nm hn qty pr
          rw [hsd2] at this
          exact ⟨by rw [this.1], this.2⟩
theorem RSim.cut {S : Sd} {L : List Ro} (h : RSim S L) {i sd k : Nat} {o : Ro} (hi : L[i]? = some o) (hsd : (sd = 0 ∧ o.side = 1) ∨ (sd = 1 ∧ o.side = 2)) (hk : (S.at sd)[k]? = some o.mo) : RSim (S.put sd (cutAt k (S.at sd))) (cutAt i L) := by
  have hx : o.mo.id = o.id := rfl
  rcases hsd with ⟨rfl, hs⟩ | ⟨rfl, hs⟩
  · have hk1 : S.1[k]? = some o.mo := hk
    have hu : (S.1.map (·.id)).Nodup := by rw [h.s1]; exact uniq_side h.i.u 1
    refine ⟨?_, ?_, h.i.cut i⟩
    · show cutAt k S.1 = _
      rw [mo_cut hu hk1, sideOf_cut h.i.u hi, h.s1, hx]
    · show S.2 = _
      rw [sideOf_cut h.i.u hi, cut_none (side_not h.i hi 2 (by omega)), h.s2]
  · have hk1 : S.2[k]? = some o.mo := hk
    have hu : (S.2.map (·.id)).Nodup := by rw [h.s2]; exact uniq_side h.i.u 2
    refine ⟨?_, ?_, h.i.cut i⟩
    · show S.1 = _
      rw [sideOf_cut h.i.u hi, cut_none (side_not h.i hi 1 (by omega)), h.s1]
    · show cutAt k S.2 = _
      rw [mo_cut hu hk1, sideOf_cut h.i.u hi, h.s2, hx]
theorem RSim.set {S : Sd} {L : List Ro} (h : RSim S L) {i sd k : Nat} {o : Ro} (hi : L[i]? = some o) (hsd : (sd = 0 ∧ o.side = 1) ∨ (sd = 1 ∧ o.side = 2)) (hk : (S.at sd)[k]? = some o.mo) (v : Int) : RSim (S.put sd ((S.at sd).set k { o.mo with left := v })) (L.set i { o with left := v }) := by
  have hx : o.mo.id = o.id := rfl
  rcases hsd with ⟨rfl, hs⟩ | ⟨rfl, hs⟩
  · have hk1 : S.1[k]? = some o.mo := hk
    have hu : (S.1.map (·.id)).Nodup := by rw [h.s1]; exact uniq_side h.i.u 1
    refine ⟨?_, ?_, h.i.set hi v⟩
    · show S.1.set k { o.mo with left := v } = _
      rw [mo_set hu hk1, sideOf_set h.i.u hi, h.s1, hx]
    · show S.2 = _
      rw [sideOf_set h.i.u hi, setM_none (side_not h.i hi 2 (by omega)), h.s2]
  · have hk1 : S.2[k]? = some o.mo := hk
    have hu : (S.2.map (·.id)).Nodup := by rw [h.s2]; exact uniq_side h.i.u 2
    refine ⟨?_, ?_, h.i.set hi v⟩
    · show S.1 = _
      rw [sideOf_set h.i.u hi, setM_none (side_not h.i hi 1 (by omega)), h.s1]
    · show S.2.set k { o.mo with left := v } = _
      rw [mo_set hu hk1, sideOf_set h.i.u hi, h.s2, hx]
theorem can_sim {S : Sd} {L : List Ro} (h : RSim S L) (nm : ByteArray) : (canM S nm).1 = (canR L nm).1 ∧ RSim (canM S nm).2 (canR L nm).2 := by
  unfold canM canR
  cases ho : L[rIdx L nm]? with
  | none =>
    obtain ⟨a, b⟩ := h.found0 ho
    rw [a]; simp only; rw [b]
    exact ⟨rfl, h⟩
  | some o =>
    rcases h.i.s o (List.mem_of_getElem? ho) with hs | hs
    · have a := h.found1 ho hs
      rw [a]
      exact ⟨rfl, h.cut ho (.inl ⟨rfl, hs⟩) a⟩
    · obtain ⟨a, b⟩ := h.found2 ho hs
      rw [a]; simp only; rw [b]
      exact ⟨rfl, h.cut ho (.inr ⟨rfl, hs⟩) b⟩
theorem repAt_sim {S : Sd} {L : List Ro} (h : RSim S L) (nm : ByteArray) (qty pr : Int) {sd k : Nat} {o : Ro} (ho : L[rIdx L nm]? = some o) (hsd : (sd = 0 ∧ o.side = 1) ∨ (sd = 1 ∧ o.side = 2)) (hk : (S.at sd)[k]? = some o.mo) :
    (repAt S sd k o.mo nm qty pr).1 = (repR L nm qty pr).1 ∧ RSim (repAt S sd k o.mo nm qty pr).2 (repR L nm qty pr).2 := by
  unfold repAt repR
  rw [ho]
  simp only
  split
  · exact ⟨rfl, h⟩
  · by_cases hp : pr = o.price ∧ qty ≤ o.left
    · rw [if_pos (show pr = o.mo.price ∧ qty ≤ o.mo.left from hp), if_pos hp]
      exact ⟨rfl, h.set ho hsd hk qty⟩
    · rw [if_neg (show ¬ (pr = o.mo.price ∧ qty ≤ o.mo.left) from hp), if_neg hp]
      have hc := h.cut ho hsd hk
      have hn : ¬ nm ∈ (cutAt (rIdx L nm) L).map (·.id) := by
        rw [cut_filter h.i.u ho]
        intro hz
        obtain ⟨x, hx, e⟩ := List.mem_map.1 hz
        have h2 := (List.mem_filter.1 hx).2
        rw [rIdx_id ho, eqB_iff.2 e] at h2
        cases h2
      have hs2 : ((sd + 1 : Nat) : Int) = o.side := by omega
      have := meet_sim hc sd (by omega) nm hn qty pr
      rw [hs2] at this
      exact ⟨by rw [this.1], this.2⟩
theorem rep_sim {S : Sd} {L : List Ro} (h : RSim S L) (nm : ByteArray) (qty pr : Int) : (repM S nm qty pr).1 = (repR L nm qty pr).1 ∧ RSim (repM S nm qty pr).2 (repR L nm qty pr).2 := by
  unfold repM
  cases ho : L[rIdx L nm]? with
  | none =>
    obtain ⟨a, b⟩ := h.found0 ho
    rw [a]; simp only; rw [b]
    unfold repR
    rw [ho]
    exact ⟨rfl, h⟩
  | some o =>
    rcases h.i.s o (List.mem_of_getElem? ho) with hs | hs
    · have a := h.found1 ho hs
      rw [a]
      exact repAt_sim h nm qty pr ho (.inl ⟨rfl, hs⟩) a
    · obtain ⟨a, b⟩ := h.found2 ho hs
      rw [a]; simp only; rw [b]
      exact repAt_sim h nm qty pr ho (.inr ⟨rfl, hs⟩) b
end

section
open Go.RowKit

/-! The document's levels: the best price that is worse than the last one, again and again. -/
def limB (side : Int) (lim : Option Int) (p : Int) : Bool :=
  match lim with
  | none => true
  | some q => btr side q p
def pasU (side : Int) (lim : Option Int) (l : Lv) (o : Ro) : Lv :=
  if o.side = side ∧ limB side lim o.price = true then
    (if l.orders = 0 ∨ btr side o.price l.price = true then ⟨o.price, o.left, 1⟩
     else if o.price = l.price then ⟨l.price, l.qty + o.left, l.orders + 1⟩ else l)
  else l
def pasL (side : Int) (lim : Option Int) (L : List Ro) : Lv := L.foldl (pasU side lim) zLv
def elig (side : Int) (lim : Option Int) (L : List Ro) : List Ro := L.filter (fun o => decide (o.side = side) && limB side lim o.price)
def sumP (p : Int) (E : List Ro) : Int := ((E.filter (fun o => decide (o.price = p))).map (·.left)).sum
def cntP (p : Int) (E : List Ro) : Nat := (E.filter (fun o => decide (o.price = p))).length
theorem sumP_snoc (p : Int) (E : List Ro) (o : Ro) : sumP p (E ++ [o]) = if o.price = p then sumP p E + o.left else sumP p E := by
  unfold sumP
  rw [List.filter_append]
  split
  · rename_i h
    rw [List.filter_cons_of_pos (by simpa using h)]
    simp
  · rename_i h
    rw [List.filter_cons_of_neg (by simpa using h)]
    simp
theorem cntP_snoc (p : Int) (E : List Ro) (o : Ro) : cntP p (E ++ [o]) = if o.price = p then cntP p E + 1 else cntP p E := by
  unfold cntP
  rw [List.filter_append]
  split
  · rename_i h
    rw [List.filter_cons_of_pos (by simpa using h)]
    simp
  · rename_i h
    rw [List.filter_cons_of_neg (by simpa using h)]
    simp
theorem cntP_pos {p : Int} {E : List Ro} {o : Ro} (h : o ∈ E) (hp : o.price = p) : 0 < cntP p E := by
  unfold cntP
  exact List.length_pos_of_mem (List.mem_filter.2 ⟨h, by simpa using hp⟩)
theorem none_P {p : Int} {E : List Ro} (h : ∀ o ∈ E, o.price ≠ p) : sumP p E = 0 ∧ cntP p E = 0 := by
  have : E.filter (fun o => decide (o.price = p)) = [] := List.filter_eq_nil_iff.2 (fun o ho => by simpa using h o ho)
  unfold sumP cntP
  rw [this]
  exact ⟨rfl, rfl⟩
/-- What a pass has found. -/
structure PaI (side : Int) (E : List Ro) (l : Lv) : Prop where
  e : E = [] → l = zLv
  x : E ≠ [] → ∃ o ∈ E, o.price = l.price
  b : ∀ o ∈ E, btr side o.price l.price = false
  q : E ≠ [] → l.qty = sumP l.price E ∧ l.orders = cntP l.price E
theorem PaI.up {side : Int} {lim : Option Int} {L : List Ro} {l : Lv} (h : PaI side (elig side lim L) l) (o : Ro) : PaI side (elig side lim (L ++ [o])) (pasU side lim l o) := by
  have he : elig side lim (L ++ [o]) = elig side lim L ++ (if o.side = side ∧ limB side lim o.price = true then [o] else []) := by
    unfold elig
    rw [List.filter_append]
    congr 1
    split
    · rename_i hh
      rw [List.filter_cons_of_pos (by simp [hh.1, hh.2])]
      rfl
    · rename_i hh
      rw [List.filter_cons_of_neg (by simpa using hh)]
      rfl
  rw [he]
  unfold pasU
  generalize elig side lim L = E at *
  by_cases hh : o.side = side ∧ limB side lim o.price = true
  · rw [if_pos hh, if_pos hh]
    have hne : E ++ [o] ≠ [] := by simp
    by_cases h0 : E = []
    · have hl := h.e h0
      subst hl
      subst h0
      rw [if_pos (.inl rfl)]
      refine ⟨fun h => absurd h hne, fun _ => ⟨o, by simp, rfl⟩, fun x hx => ?_, fun _ => ?_⟩
      · have hx : x = o := by simpa using hx
        subst hx
        simp [btr]
      · simp [sumP, cntP]
    · obtain ⟨z, hz, hzp⟩ := h.x h0
      obtain ⟨q1, q2⟩ := h.q h0
      have hc := cntP_pos hz hzp
      by_cases hb : btr side o.price l.price = true
      · rw [if_pos (.inr hb)]
        have hall : ∀ x ∈ E, x.price ≠ o.price := fun x hx e => by
          have := h.b x hx
          rw [e, hb] at this
          cases this
        obtain ⟨n1, n2⟩ := none_P hall
        refine ⟨fun h => absurd h hne, fun _ => ⟨o, by simp, rfl⟩, fun x hx => ?_, fun _ => ?_⟩
        · rcases List.mem_append.1 hx with hx | hx
          · have := h.b x hx
            revert this hb
            unfold btr
            split <;> simp <;> omega
          · have hx : x = o := by simpa using hx
            subst hx
            simp [btr]
        · rw [sumP_snoc, cntP_snoc, if_pos rfl, if_pos rfl, n1, n2]
          simp
      · have hbf : btr side o.price l.price = false := by simpa using hb
        rw [if_neg (fun hx => by rcases hx with hx | hx; omega; exact hb hx)]
        by_cases hp : o.price = l.price
        · rw [if_pos hp]
          refine ⟨fun h => absurd h hne, fun _ => ⟨o, by simp, hp⟩, fun x hx => ?_, fun _ => ?_⟩
          · rcases List.mem_append.1 hx with hx | hx
            · exact h.b x hx
            · have hx : x = o := by simpa using hx
              subst hx
              exact hbf
          · rw [sumP_snoc, cntP_snoc, if_pos hp, if_pos hp, ← q1]
            refine ⟨rfl, ?_⟩
            simp only
            omega
        · rw [if_neg hp]
          refine ⟨fun h => absurd h hne, fun _ => ⟨z, by simp [hz], hzp⟩, fun x hx => ?_, fun _ => ?_⟩
          · rcases List.mem_append.1 hx with hx | hx
            · exact h.b x hx
            · have hx : x = o := by simpa using hx
              subst hx
              exact hbf
          · rw [sumP_snoc, cntP_snoc, if_neg hp, if_neg hp]
            exact ⟨q1, q2⟩
  · rw [if_neg hh, if_neg hh, List.append_nil]
    exact h
theorem pas_ok (side : Int) (lim : Option Int) : ∀ (L2 L1 : List Ro) (l : Lv), PaI side (elig side lim L1) l → PaI side (elig side lim (L1 ++ L2)) (L2.foldl (pasU side lim) l)
  | [], L1, l, h => by rw [List.append_nil]; exact h
  | o :: L2, L1, l, h => by
    have := pas_ok side lim L2 (L1 ++ [o]) (pasU side lim l o) (h.up o)
    rw [List.append_assoc] at this
    exact this
theorem pasL_ok (side : Int) (lim : Option Int) (L : List Ro) : PaI side (elig side lim L) (pasL side lim L) :=
  pas_ok side lim L [] zLv ⟨fun _ => rfl, fun h => absurd rfl h, fun _ h => (by cases h), fun h => absurd rfl h⟩

/-! The program's levels, by their prices. -/
def sumQ (p : Int) (l : List Mo) : Int := ((l.filter (fun o => decide (o.price = p))).map (·.left)).sum
def cntQ (p : Int) (l : List Mo) : Nat := (l.filter (fun o => decide (o.price = p))).length
theorem sumQ_snoc (p : Int) (E : List Mo) (o : Mo) : sumQ p (E ++ [o]) = if o.price = p then sumQ p E + o.left else sumQ p E := by
  unfold sumQ
  rw [List.filter_append]
  split
  · rename_i h
    rw [List.filter_cons_of_pos (by simpa using h)]
    simp
  · rename_i h
    rw [List.filter_cons_of_neg (by simpa using h)]
    simp
theorem cntQ_snoc (p : Int) (E : List Mo) (o : Mo) : cntQ p (E ++ [o]) = if o.price = p then cntQ p E + 1 else cntQ p E := by
  unfold cntQ
  rw [List.filter_append]
  split
  · rename_i h
    rw [List.filter_cons_of_pos (by simpa using h)]
    simp
  · rename_i h
    rw [List.filter_cons_of_neg (by simpa using h)]
    simp
def LkI (l : List Mo) (M : List Lv) : Prop := ∀ p, (cntQ p l = 0 → lkL M p = none ∧ sumQ p l = 0) ∧ (cntQ p l ≠ 0 → lkL M p = some ⟨p, sumQ p l, cntQ p l⟩)
theorem LkI.up {l : List Mo} {M : List Lv} (h : LkI l M) (o : Mo) : LkI (l ++ [o]) (lvUp M o) := by
  intro p
  have hv : lkV M o.price = ⟨(lkV M o.price).price, sumQ o.price l, cntQ o.price l⟩ := by
    by_cases hc : cntQ o.price l = 0
    · obtain ⟨a, b⟩ := (h o.price).1 hc
      unfold lkV
      rw [a, b, hc]
      rfl
    · unfold lkV
      rw [(h o.price).2 hc]
      rfl
  rw [sumQ_snoc, cntQ_snoc]
  by_cases hp : o.price = p
  · subst hp
    rw [if_pos rfl, if_pos rfl]
    refine ⟨fun h0 => by omega, fun _ => ?_⟩
    unfold lvUp
    have := lk_same M ⟨o.price, (lkV M o.price).qty + o.left, (lkV M o.price).orders + 1⟩
    simp only at this
    rw [this, hv]
    simp
  · rw [if_neg hp, if_neg hp]
    unfold lvUp
    rw [lk_other _ _ _ (by simpa using fun e => hp e.symm)]
    exact h p
theorem lk_ok : ∀ (l2 l1 : List Mo) (M : List Lv), LkI l1 M → LkI (l1 ++ l2) (l2.foldl lvUp M)
  | [], l1, M, h => by rw [List.append_nil]; exact h
  | o :: l2, l1, M, h => by
    have := lk_ok l2 (l1 ++ [o]) (lvUp M o) (h.up o)
    rw [List.append_assoc] at this
    exact this
theorem depthM_lk (l : List Mo) : LkI l (depthM l) := lk_ok l [] [] (fun p => ⟨fun _ => ⟨rfl, rfl⟩, fun h => absurd rfl h⟩)
theorem perm_sum {a b : List Int} (h : a.Perm b) : a.sum = b.sum := by
  induction h with
  | nil => rfl
  | cons x _ ih => rw [List.sum_cons, List.sum_cons, ih]
  | swap x y l => rw [List.sum_cons, List.sum_cons, List.sum_cons, List.sum_cons]; omega
  | trans _ _ h1 h2 => exact h1.trans h2
theorem sideOf_P (side : Int) (L : List Ro) (p : Int) : sumQ p (sideOf side L) = sumP p (L.filter (fun o => decide (o.side = side))) ∧ cntQ p (sideOf side L) = cntP p (L.filter (fun o => decide (o.side = side))) := by
  have hp := (sideOf_perm side L).filter (fun o => decide (o.price = p))
  rw [List.filter_map] at hp
  have e : ((fun o : Mo => decide (o.price = p)) ∘ Ro.mo) = fun o : Ro => decide (o.price = p) := rfl
  rw [e] at hp
  constructor
  · unfold sumQ sumP
    have := hp.map (·.left)
    rw [List.map_map] at this
    exact perm_sum this
  · unfold cntQ cntP
    rw [hp.length_eq, List.length_map]
theorem elig_P {side : Int} {lim : Option Int} {L : List Ro} {p : Int} (h : limB side lim p = true) : sumP p (elig side lim L) = sumP p (L.filter (fun o => decide (o.side = side))) ∧ cntP p (elig side lim L) = cntP p (L.filter (fun o => decide (o.side = side))) := by
  have e : (elig side lim L).filter (fun o => decide (o.price = p)) = (L.filter (fun o => decide (o.side = side))).filter (fun o => decide (o.price = p)) := by
    unfold elig
    rw [List.filter_filter, List.filter_filter]
    apply List.filter_congr
    intro o _
    by_cases hp : o.price = p
    · rw [hp, h]; simp
    · simp [hp]
  unfold sumP cntP
  rw [e]
  exact ⟨rfl, rfl⟩
/-- The limit behind k levels. -/
def limK (M : List Lv) : Nat → Option Int
  | 0 => none
  | k + 1 => (M[k]?).map (·.price)
theorem dep_pass (side : Int) (L : List Ro) (hL : ∀ o ∈ L, 1 ≤ o.left) (k : Nat) (hk : k ≤ (depthM (sideOf side L)).length) :
    ((depthM (sideOf side L))[k]? = none → pasL side (limK (depthM (sideOf side L)) k) L = zLv) ∧ ∀ x, (depthM (sideOf side L))[k]? = some x → pasL side (limK (depthM (sideOf side L)) k) L = x ∧ 1 ≤ x.orders := by
  have hd := depthM_ok (side := side) (sideOf_srt side L) (fun x hx => by
    obtain ⟨o, ho, -, h2⟩ := sideOf_mem.1 hx
    rw [← h2]
    exact hL o ho)
  have hlk := depthM_lk (sideOf side L)
  have hmem : ∀ o ∈ L, o.side = side → ∃ (j : Nat) (y : Lv), (depthM (sideOf side L))[j]? = some y ∧ y.price = o.price := fun o ho hs => by
    have hc : cntQ o.price (sideOf side L) ≠ 0 := by
      rw [(sideOf_P side L o.price).2]
      have := cntP_pos (p := o.price) (E := L.filter (fun o => decide (o.side = side))) (List.mem_filter.2 ⟨ho, by simpa using hs⟩) rfl
      omega
    obtain ⟨a, b⟩ := lk_price ((hlk o.price).2 hc)
    obtain ⟨j, hj⟩ := List.mem_iff_getElem?.1 b
    exact ⟨j, _, hj, a⟩
  have hmem2 : ∀ (j : Nat) (y : Lv), (depthM (sideOf side L))[j]? = some y → (∃ o ∈ L, o.side = side ∧ o.price = y.price) ∧ y = ⟨y.price, sumQ y.price (sideOf side L), cntQ y.price (sideOf side L)⟩ := fun j y hj => by
    have hm := List.mem_of_getElem? hj
    obtain ⟨-, -, x, hx, e⟩ := hd.b y hm
    obtain ⟨o, ho, h1, h2⟩ := sideOf_mem.1 hx
    refine ⟨⟨o, ho, h1, by rw [← e, ← h2]; rfl⟩, ?_⟩
    have hnd : ((depthM (sideOf side L)).map (·.price)).Nodup := hd.s.imp (fun {a b} h e => by subst e; simp [btr] at h)
    have hl := lk_nodup hnd hj
    have hc : cntQ y.price (sideOf side L) ≠ 0 := fun h0 => by
      rw [((hlk y.price).1 h0).1] at hl
      cases hl
    rw [(hlk y.price).2 hc] at hl
    exact (Option.some.inj hl).symm
  have hst : ∀ (i j : Nat) (x y : Lv), i < j → (depthM (sideOf side L))[i]? = some x → (depthM (sideOf side L))[j]? = some y → btr side x.price y.price = true := fun i j x y hij hx hy => by
    obtain ⟨hi, ex⟩ := List.getElem?_eq_some_iff.1 hx
    obtain ⟨hj, ey⟩ := List.getElem?_eq_some_iff.1 hy
    have := List.pairwise_iff_getElem.1 hd.s i j (by simpa using hi) (by simpa using hj) hij
    simp only [List.getElem_map, ex, ey] at this
    exact this
  have hpa := pasL_ok side (limK (depthM (sideOf side L)) k) L
  have hb1 : ∀ x ∈ depthM (sideOf side L), 1 ≤ x.orders := fun x hx => (hd.b x hx).2.1
  generalize depthM (sideOf side L) = M at *
  have hlim : ∀ (j : Nat) (y : Lv), M[j]? = some y → (limB side (limK M k) y.price = true ↔ k ≤ j) := fun j y hy => by
    cases k with
    | zero => exact ⟨fun _ => Nat.zero_le _, fun _ => rfl⟩
    | succ k =>
      obtain ⟨z, hz⟩ : ∃ z, M[k]? = some z := ⟨_, List.getElem?_eq_getElem (by omega)⟩
      have e : limB side (limK M (k + 1)) y.price = btr side z.price y.price := by
        have e1 : limK M (k + 1) = some z.price := by show (M[k]?).map (·.price) = _; rw [hz]; rfl
        rw [e1]; rfl
      rw [e]
      constructor
      · intro h
        rcases Nat.lt_trichotomy j k with hj | hj | hj
        · have := hst j k y z hj hy hz
          revert this h
          unfold btr
          split <;> simp <;> omega
        · subst hj
          rw [hy] at hz
          injection hz with hz
          subst hz
          simp [btr] at h
        · omega
      · intro h
        exact hst k j z y (by omega) hz hy
  have hel : ∀ o, o ∈ elig side (limK M k) L ↔ o ∈ L ∧ o.side = side ∧ limB side (limK M k) o.price = true := fun o => by
    unfold elig
    rw [List.mem_filter]
    simp
  refine ⟨fun hn => hpa.e (List.eq_nil_iff_forall_not_mem.2 fun o ho => ?_), fun x hx => ?_⟩
  · obtain ⟨h1, h2, h3⟩ := (hel o).1 ho
    obtain ⟨j, y, hj, hp⟩ := hmem o h1 h2
    rw [← hp] at h3
    have := (hlim j y hj).1 h3
    have := List.getElem?_eq_none_iff.1 hn
    have := (List.getElem?_eq_some_iff.1 hj).1
    omega
  · refine ⟨?_, hb1 x (List.mem_of_getElem? hx)⟩
    obtain ⟨⟨o, ho, hs, hp⟩, hxe⟩ := hmem2 k x hx
    have hlx := (hlim k x hx).2 (Nat.le_refl _)
    have hoe : o ∈ elig side (limK M k) L := (hel o).2 ⟨ho, hs, by rw [hp]; exact hlx⟩
    have hne : elig side (limK M k) L ≠ [] := List.ne_nil_of_mem hoe
    obtain ⟨z, hz, hzp⟩ := hpa.x hne
    obtain ⟨z1, z2, z3⟩ := (hel z).1 hz
    obtain ⟨j, y, hj, hyp⟩ := hmem z z1 z2
    rw [← hyp] at z3
    have hkj := (hlim j y hj).1 z3
    have hbo := hpa.b o hoe
    have hpe : (pasL side (limK M k) L).price = x.price := by
      rcases Nat.eq_or_lt_of_le hkj with e | e
      · subst e
        rw [hx] at hj
        injection hj with hj
        rw [← hzp, ← hyp, hj]
      · have := hst k j x y e hx hj
        rw [hp, ← hzp, ← hyp, this] at hbo
        cases hbo
    obtain ⟨q1, q2⟩ := hpa.q hne
    rw [hpe] at q1 q2
    obtain ⟨e1, e2⟩ := elig_P (side := side) (lim := limK M k) (L := L) hlx
    obtain ⟨e3, e4⟩ := sideOf_P side L x.price
    rw [hxe]
    cases hpl : pasL side (limK M k) L with
    | mk a b c =>
      rw [hpl] at hpe q1 q2
      simp only at hpe q1 q2
      rw [hpe, q1, q2, e1, e2, e3, e4]
end

end Go.Proofs.Ytjhlaifflhjafaa
