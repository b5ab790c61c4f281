import Derived.Test.YtjhlaifflhjafaaRn
import Derived.Test.YtjhlaifflhjafaaRo
namespace Go.Proofs.Ytjhlaifflhjafaa
open Go.RowKit

/-! The document's roster. -/
structure RefAt (w : World) (fb gs R : Nat) (slots : List ByteArray) : Prop where
  ho : Ob w fb 70 [.slice (some ⟨gs, 0, none⟩) R R]
  hs : Ob w gs 9 (slots.map Value.string)
  hl : slots.length = R
  hR : R ≤ 1024
  hne : fb ≠ gs
theorem RefAt.mods {w w' : World} {fb gs R : Nat} {slots : List ByteArray} {S : Nat → Prop} (h : RefAt w fb gs R slots) (hm : Mods S w w') (h1 : ¬ S fb) (h2 : ¬ S gs) : RefAt w' fb gs R slots :=
  ⟨h.ho.mods hm h1, h.hs.mods hm h2, h.hl, h.hR, h.hne⟩
theorem RefAt.below {w w' : World} {fb gs R : Nat} {slots : List ByteArray} (h : RefAt w fb gs R slots) (hb : Below w.heap.size w w') : RefAt w' fb gs R slots := h.mods (Below.mods_ hb (fun _ => False)) id id
theorem RefAt.cell {w : World} {fb gs R : Nat} {slots : List ByteArray} (h : RefAt w fb gs R slots) {k : Nat} {s : ByteArray} (hs : slots[k]? = some s) : w.cell? ⟨gs, k, none⟩ = some (.string s) :=
  (h.hs.cell k).trans (by rw [List.getElem?_map, hs]; rfl)

theorem em_isE : em.toList.isEmpty = true := by rw [em, ByteArray.toList_eq]; rfl
theorem em_nil : em.toList = [] := by rw [em, ByteArray.toList_eq]
theorem ne_isE {s : ByteArray} (h : emB s = false) : s.toList.isEmpty = false := by
  have : ¬ s.toList = [] := by simpa [emB] using h
  simpa using this
def pN (nm s : ByteArray) : Bool := eqB nm s && !emB nm
def refI (slots : List ByteArray) (nm : ByteArray) : Int := match fndS slots nm with | some i => (i : Int) | none => -1
theorem refI_eq (slots : List ByteArray) (nm : ByteArray) : refI slots nm = frI (idxP (pN nm) slots) slots.length := by
  unfold refI fndS frI
  cases he : emB nm with
  | true =>
    have : idxP (pN nm) slots = slots.length := idxP_none _ (fun j y _ => by simp [pN, he])
    rw [if_pos rfl, this, if_neg (by omega)]
  | false =>
    have : pN nm = eqB nm := by funext s; simp [pN, he]
    rw [if_neg (by decide), this]
    show (match (if idxP (eqB nm) slots < slots.length then some (idxP (eqB nm) slots) else none) with | some i => (i : Int) | none => -1) = _
    split
    · rename_i h; split at h
      · rename_i h2; injection h with h; rw [if_pos h2, h]
      · cases h
    · rename_i h; split at h
      · cases h
      · rename_i h2; rw [if_neg h2]

set_option maxHeartbeats 1600000 in
theorem refFind (w : World) (fb gs R : Nat) (slots : List ByteArray) (h : RefAt w fb gs R slots) (nm : ByteArray) :
    Calls Try.prog 39 #[.pointer (some ⟨fb, 0, none⟩), .string nm] w fun e w' => e = .returned (.int .i64 (refI slots nm)) ∧ w = w' := by
  rw [refI_eq, h.hl]
  have hc := h.ho.cell
  have hR := h.hR
  have HL := Lib.hid h.hl
  have H := Lib.hid h
  obtain ⟨F, hF⟩ : ∃ F, idxP (pN nm) slots = F := ⟨_, rfl⟩
  have HF := Lib.hid hF
  have hFR : F ≤ R := by rw [← hF, ← h.hl]; exact idxP_le _ _
  rw [hF]
  clear h hF
  go_enter Try.func39, Try.ntmps39
  go_wp2_with fail
  go_loop [5] (fun i => ∃ k : Nat, k ≤ F ∧ i = .int .i64 k) (fun i => F + 1 - (intOf i).toNat)
  case atStart => exact ⟨0, by omega, rfl⟩
  case round =>
    obtain ⟨k, hk, rfl⟩ := hrel
    by_cases hlt : k < R
    · obtain ⟨s, hs⟩ : ∃ s, slots[k]? = some s := ⟨_, List.getElem?_eq_getElem (by rw [HL.out]; exact hlt)⟩
      have hcell := H.out.cell hs
      by_cases hkF : k < F
      · have hp : pN nm s = false := idxP_lt (pN nm) (l := slots) (by rw [HF.out]; exact hkF) hs
        cases hq : eqB nm s with
        | false =>
          have e1 : (s.toList == nm.toList) = false := hq
          have e2 : ¬ s.toList = nm.toList := by simpa using e1
          clear hs hp hq
          go_wp2_with fail
          go_round
          case rel => exact ⟨k + 1, by omega, by go_num⟩
          case measure => simp [intOf]; omega
        | true =>
          have hsn := eqB_iff.1 hq
          subst hsn
          have e3 : emB s = true := by simpa [pN, hq] using hp
          have e4 := emB_iff.1 e3
          subst e4
          have e5 := em_isE
          have e6 := em_nil
          clear hs hp hq e3
          go_wp2_with fail
          go_round
          case rel => exact ⟨k + 1, by omega, by go_num⟩
          case measure => simp [intOf]; omega
      · obtain rfl : k = F := by omega
        have hp : pN nm s = true := idxP_at (pN nm) (l := slots) (by rw [HF.out]; exact hs)
        have hp' := hp
        simp only [pN, Bool.and_eq_true] at hp'
        have hsn := eqB_iff.1 hp'.1
        subst hsn
        have e1 : (s.toList == []) = false := by simpa [emB] using hp'.2
        have e2 : ¬ s.toList = [] := by simpa using e1
        have e3 : s.toList.isEmpty = false := by simpa using e2
        clear hs hp hp'
        go_wp2_with fail
        go_ret
        exact ⟨ret_int (by unfold frI; rw [if_pos hlt]), rfl⟩
    · obtain rfl : k = R := by omega
      obtain rfl : k = F := by omega
      go_wp2_with fail
      go_ret
      exact ⟨ret_int (by unfold frI; rw [if_neg hlt]), rfl⟩

set_option maxHeartbeats 1600000 in
theorem refDrop (w : World) (fb gs R : Nat) (slots : List ByteArray) (h : RefAt w fb gs R slots) (nm : ByteArray) :
    Calls Try.prog 38 #[.pointer (some ⟨fb, 0, none⟩), .string nm] w fun e w' => e = .returned (.int .i64 (dropS slots nm).1) ∧ RefAt w' fb gs R (dropS slots nm).2 ∧ Mods (fun k => k = gs) w w' := by
  have hf := refFind w fb gs R slots h nm
  unfold refI at hf
  unfold dropS
  cases hfn : fndS slots nm with
  | none =>
    rw [hfn] at hf
    have HF := Lib.hid hf
    have H := Lib.hid h
    clear h hf hfn
    go_enter Try.func38, Try.ntmps38
    go_wp2_with (go_at_call 39; refine HF.out.mono ?_; rintro e w' ⟨rfl, rfl⟩)
    go_ret
    exact ⟨rfl, H.out, Mods.refl _ _⟩
  | some i =>
    rw [hfn] at hf
    simp only at hf
    obtain ⟨hsi, -, -⟩ := fndS_some hfn
    have hiR : i < R := by rw [← h.hl]; exact (List.getElem?_eq_some_iff.1 hsi).1
    have hc := h.ho.cell
    have hcell := h.cell hsi
    have hz := h.hs.frozen
    have hl := h.hs.lt
    have HF := Lib.hid hf
    have H := Lib.hid h
    have hd0 : decide ((i : Int) < 0) = false := by simp
    have hd1 : (0 : Int) ≤ i := by omega
    clear h hf hfn hsi
    go_enter Try.func38, Try.ntmps38
    go_wp2_with (go_at_call 39; refine HF.out.mono ?_; rintro e w' ⟨rfl, rfl⟩)
    go_ret
    have hu := (Upd.refl gs w).set i (.string ⟨#[]⟩)
    refine ⟨rfl, ⟨H.out.ho.upd hu H.out.hne, ?_, by simp [H.out.hl], H.out.hR, H.out.hne⟩, hu.mods rfl⟩
    have := H.out.hs.set i (.string em)
    rwa [map_set' Value.string slots i em] at this

set_option maxHeartbeats 1600000 in
theorem refPut (w : World) (fb gs R : Nat) (slots : List ByteArray) (h : RefAt w fb gs R slots) (nm : ByteArray) (hnm : nm.size ≤ 70368744177664) :
    Calls Try.prog 37 #[.pointer (some ⟨fb, 0, none⟩), .string nm] w fun e w' => e = .returned (.tuple #[.int .i64 (putS slots nm).1.1, .int .i64 (putS slots nm).1.2]) ∧ RefAt w' fb gs R (putS slots nm).2 ∧ Mods (fun k => k = gs) w w' := by
  obtain ⟨P, hP⟩ : ∃ P, putS slots nm = P := ⟨_, rfl⟩
  rw [hP]
  obtain ⟨nb, hnb⟩ : ∃ nb, nameB nm = nb := ⟨_, rfl⟩
  have hv := rValid w nm hnm
  rw [hnb] at hv
  unfold putS at hP
  rw [hnb] at hP
  have HV := Lib.hid hv
  have H := Lib.hid h
  clear hnb hv
  cases nb with
  | false =>
    rw [if_neg (by decide)] at hP
    have HP := Lib.hid hP
    clear hP h
    go_enter Try.func37, Try.ntmps37
    go_wp2_with (go_at_call 17; refine HV.out.mono ?_; rintro e w' ⟨rfl, hb⟩)
    go_ret2
    rw [← HP.out]
    exact ⟨rfl, H.out.below hb, Below.mods_ hb _⟩
  | true =>
  rw [if_pos rfl] at hP
  have hf := fun W hW => refFind W fb gs R slots hW nm
  unfold refI at hf
  cases hfn : fndS slots nm with
  | some i =>
    rw [hfn] at hf hP
    simp only at hf hP
    have hd0 : decide ((0 : Int) ≤ (i : Int)) = true := by simp
    have HF := Lib.hid hf
    have HP := Lib.hid hP
    clear hP h hf hfn
    go_enter Try.func37, Try.ntmps37
    go_wp2_with (first
      | (go_at_call 17; refine HV.out.mono ?_; rintro e w' ⟨rfl, hb⟩)
      | (go_at_call 39; refine (HF.out _ (H.out.below hb)).mono ?_; rintro e w' ⟨rfl, rfl⟩))
    go_ret2
    rw [← HP.out]
    exact ⟨rfl, H.out.below hb, Below.mods_ hb _⟩
  | none =>
    rw [hfn] at hf hP
    simp only at hf hP
    have HF := Lib.hid hf
    have hR := h.hR
    have hls := h.hl
    rw [hls] at hP
    obtain ⟨F, hF⟩ : ∃ F, freeI slots = F := ⟨_, rfl⟩
    rw [hF] at hP
    have hFR : F ≤ R := by rw [← hF, ← h.hl]; exact idxP_le _ _
    have HFr := Lib.hid hF
    have HP := Lib.hid hP
    have HL := Lib.hid hls
    clear hP h hf hfn hF hls
    go_enter Try.func37, Try.ntmps37
    go_upto_region 5 with (first
      | (go_at_call 17; refine HV.out.mono ?_; rintro e w' ⟨rfl, hb⟩)
      | (go_at_call 39; refine (HF.out _ (H.out.below hb)).mono ?_; rintro e w' ⟨rfl, rfl⟩))
    refine cutW (fun W => RefAt W fb gs R slots ∧ Below w.heap.size w W) ⟨H.out.below hb, hb⟩ ?_
    clear H hb HV HF
    rintro W ⟨h, hB⟩
    have hc := h.ho.cell
    have H := Lib.hid h
    have HB := Lib.hid hB
    clear h hB
    go_wp2_with fail
    go_loop [6] (fun i => ∃ k : Nat, k ≤ F ∧ i = .int .i64 k) (fun i => F + 1 - (intOf i).toNat)
    case atStart => exact ⟨0, by omega, rfl⟩
    case round =>
      obtain ⟨k, hk, rfl⟩ := hrel
      by_cases hlt : k < R
      · obtain ⟨s, hs⟩ : ∃ s, slots[k]? = some s := ⟨_, List.getElem?_eq_getElem (by rw [HL.out]; exact hlt)⟩
        have hcell := H.out.cell hs
        by_cases hkF : k < F
        · have hp : emB s = false := idxP_lt emB (l := slots) (by have := HFr.out; unfold freeI at this; omega) hs
          have e1 : (s.toList == []) = false := hp
          have e2 : ¬ s.toList = [] := by simpa using e1
          have e3 := ne_isE hp
          clear hs hp
          go_wp2_with fail
          go_round
          case rel => exact ⟨k + 1, by omega, by go_num⟩
          case measure => simp [intOf]; omega
        · obtain rfl : k = F := by omega
          have hp : emB s = true := idxP_at emB (l := slots) (by have := HFr.out; unfold freeI at this; rw [this]; exact hs)
          have hse := emB_iff.1 hp
          subst hse
          have e5 := em_isE
          have e6 := em_nil
          have hz := H.out.hs.frozen
          have hl := H.out.hs.lt
          clear hs hp
          go_wp2_with fail
          go_ret2
          have hu := (Upd.refl gs W).set k (.string nm)
          rw [← HP.out, if_pos hlt]
          refine ⟨rfl, ⟨H.out.ho.upd hu H.out.hne, ?_, by simp [H.out.hl], H.out.hR, H.out.hne⟩, (Below.mods_ HB.out _).trans (hu.mods rfl)⟩
          have := H.out.hs.set k (.string nm)
          rwa [map_set' Value.string slots k nm] at this
      · obtain rfl : k = R := by omega
        obtain rfl : k = F := by omega
        go_wp2_with fail
        go_ret2
        rw [← HP.out, if_neg hlt]
        exact ⟨rfl, H.out, Below.mods_ HB.out _⟩

end Go.Proofs.Ytjhlaifflhjafaa
