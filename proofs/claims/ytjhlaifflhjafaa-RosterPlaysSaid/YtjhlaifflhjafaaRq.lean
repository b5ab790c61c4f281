import Derived.Test.YtjhlaifflhjafaaRp
namespace Go.Proofs.Ytjhlaifflhjafaa
open Go.RowKit

/-! The document's Sorted: the least name above the last one. -/
def Best (last : ByteArray) (seen : List ByteArray) (r : ByteArray) : Prop :=
  (r = em ∧ ∀ s ∈ seen, bl last s = false) ∨ (r ∈ seen ∧ bl last r = true ∧ ∀ s ∈ seen, bl last s = true → bl s r = false)
theorem Best.ne {last r : ByteArray} {seen : List ByteArray} (h : Best last seen r) (hr : r ≠ em) : r ∈ seen ∧ bl last r = true ∧ ∀ s ∈ seen, bl last s = true → bl s r = false := h.resolve_left (fun e => hr e.1)
theorem bl_e (a : ByteArray) : bl a em = false := bl_empty a
theorem Best.nil (last : ByteArray) : Best last [] em := .inl ⟨rfl, by simp⟩
theorem Best.skip {last r s : ByteArray} {seen : List ByteArray} (h : Best last seen r) (hs : bl last s = false) : Best last (seen ++ [s]) r := by
  rcases h with ⟨h1, h2⟩ | ⟨h1, h2, h3⟩
  · refine .inl ⟨h1, fun x hx => ?_⟩
    rcases List.mem_append.1 hx with hx | hx
    · exact h2 x hx
    · simp at hx; subst hx; exact hs
  · refine .inr ⟨List.mem_append.2 (.inl h1), h2, fun x hx hl => ?_⟩
    rcases List.mem_append.1 hx with hx | hx
    · exact h3 x hx hl
    · simp at hx; subst hx; rw [hs] at hl; cases hl
theorem Best.take {last r s : ByteArray} {seen : List ByteArray} (h : Best last seen r) (hs : bl last s = true) (hr : r = em ∨ bl s r = true) : Best last (seen ++ [s]) s := by
  refine .inr ⟨by simp, hs, fun x hx hl => ?_⟩
  rcases List.mem_append.1 hx with hx | hx
  · rcases h with ⟨h1, h2⟩ | ⟨h1, h2, h3⟩
    · rw [h2 x hx] at hl; cases hl
    · rcases hr with rfl | hr
      · rw [bl_e] at h2; cases h2
      · cases hb : bl x s with
        | false => rfl
        | true => have := bl_trans hb hr; rw [h3 x hx hl] at this; cases this
  · simp at hx; subst hx; exact bl_irrefl _
theorem Best.keep {last r s : ByteArray} {seen : List ByteArray} (h : Best last seen r) (hr : r ≠ em) (hsr : bl s r = false) : Best last (seen ++ [s]) r := by
  obtain ⟨h1, h2, h3⟩ := h.ne hr
  refine .inr ⟨List.mem_append.2 (.inl h1), h2, fun x hx hl => ?_⟩
  rcases List.mem_append.1 hx with hx | hx
  · exact h3 x hx hl
  · simp at hx; subst hx; exact hsr
theorem bl_em {s : ByteArray} (h : s ≠ em) : bl em s = true := by
  have h2 : ¬ s.toList = [] := fun e => h (emB_iff.1 (by simp [emB, e]))
  unfold bl
  rw [em_nil]
  cases hl : s.toList with
  | nil => exact absurd hl h2
  | cons a l => rfl

def nthN (seats : List Seat) (k : Nat) : ByteArray := match seats[k]? with | some p => p.1 | none => em
def lastN (seats : List Seat) : Nat → ByteArray
  | 0 => em
  | k + 1 => nthN seats k
theorem Best.last {seats : List Seat} {slots : List ByteArray} (hi : RInv seats slots) {k : Nat} {r : ByteArray} (hk : k ≤ seats.length) (h : Best (lastN seats k) slots r) : r = nthN seats k := by
  have above : ∀ (j : Nat) (p : Seat), seats[j]? = some p → k ≤ j → bl (lastN seats k) p.1 = true := by
    intro j p hp hkj
    match k, hkj, hk with
    | 0, _, _ => exact bl_em (hi.sl p (List.mem_of_getElem? hp)).2
    | k + 1, hkj, hk =>
      have hkl : k < seats.length := by omega
      have hjl := (List.getElem?_eq_some_iff.1 hp).1
      have := List.pairwise_iff_getElem.1 hi.srt k j hkl hjl (by omega)
      show bl (nthN seats k) p.1 = true
      unfold nthN
      rw [List.getElem?_eq_getElem hkl]
      rw [(List.getElem?_eq_some_iff.1 hp).2] at this
      exact this
  have inv : ∀ s ∈ slots, bl (lastN seats k) s = true → ∃ (j : Nat) (p : Seat), seats[j]? = some p ∧ p.1 = s ∧ k ≤ j := by
    intro s hs hb
    have hne : s ≠ em := by rintro rfl; rw [bl_e] at hb; cases hb
    obtain ⟨i, hil, rfl⟩ := List.mem_iff_getElem.1 hs
    have hm := hi.ls i _ (List.getElem?_eq_getElem hil) hne
    obtain ⟨j, hj, he⟩ := List.mem_iff_getElem.1 hm
    refine ⟨j, _, List.getElem?_eq_getElem hj, by rw [he], ?_⟩
    match k, hk, hb with
    | 0, _, _ => omega
    | k + 1, hk, hb =>
      rcases Nat.lt_or_ge k j with h | h
      · omega
      · exfalso
        have hkl : k < seats.length := by omega
        have hb : bl (nthN seats k) slots[i] = true := hb
        unfold nthN at hb
        rw [List.getElem?_eq_getElem hkl] at hb
        simp only at hb
        rcases Nat.lt_or_ge j k with h1 | h1
        · have := List.pairwise_iff_getElem.1 hi.srt j k hj hkl h1
          rw [he] at this
          simp only at this
          rw [bl_asymm this] at hb
          cases hb
        · obtain rfl : j = k := by omega
          rw [he] at hb
          simp only at hb
          rw [bl_irrefl] at hb
          cases hb
  by_cases hkl : k < seats.length
  · have hp := List.getElem?_eq_getElem hkl
    have hn : nthN seats k = seats[k].1 := by unfold nthN; rw [hp]
    obtain ⟨hs1, hs2⟩ := hi.sl _ (List.getElem_mem hkl)
    have hmem : seats[k].1 ∈ slots := List.mem_of_getElem? hs1
    have hab := above k _ hp (Nat.le_refl _)
    rcases h with ⟨_, h2⟩ | ⟨h1, h2, h3⟩
    · rw [h2 _ hmem] at hab; cases hab
    · obtain ⟨j, p, hjp, hpr, hkj⟩ := inv r h1 h2
      have h4 := h3 _ hmem hab
      rw [hn]
      rcases Nat.lt_or_ge k j with hlt | hge
      · have hjl := (List.getElem?_eq_some_iff.1 hjp).1
        have := List.pairwise_iff_getElem.1 hi.srt k j hkl hjl hlt
        rw [(List.getElem?_eq_some_iff.1 hjp).2, hpr] at this
        rw [this] at h4
        cases h4
      · obtain rfl : j = k := by omega
        rw [hp] at hjp
        injection hjp with hjp
        rw [hjp, hpr]
  · have hn : nthN seats k = em := by unfold nthN; rw [List.getElem?_eq_none (by omega)]
    rw [hn]
    rcases h with ⟨h1, _⟩ | ⟨h1, h2, _⟩
    · exact h1
    · obtain ⟨j, p, hjp, _, hkj⟩ := inv r h1 h2
      have := (List.getElem?_eq_some_iff.1 hjp).1
      omega

def lenOf : Value → Nat
  | .slice _ n _ => n
  | _ => 0

set_option maxHeartbeats 4000000 in
set_option maxRecDepth 100000 in
theorem refSorted (w : World) (fb gs R : Nat) (slots : List ByteArray) (h : RefAt w fb gs R slots) (seats : List Seat) (hi : RInv seats slots) :
    Calls Try.prog 40 #[.pointer (some ⟨fb, 0, none⟩)] w fun e w' => ∃ v', e = .returned v' ∧ w'.ownsRow w.heap.size 9 1 v' seats.length (seats.map nmC) ∧ Below w.heap.size w w' := by
  obtain ⟨i0, hi0, hz0, hz1, hz2⟩ := info_parts info9
  have HI := Lib.hid hi0
  have HZ0 := Lib.hid hz0
  have HZ1 := Lib.hid hz1
  have HZ2 := Lib.hid hz2
  clear hi0 hz0 hz1 hz2
  have hR := h.hR
  have hlen : seats.length ≤ R := by rw [← h.hl]; exact hi.len
  have HL := Lib.hid h.hl
  have H := Lib.hid h
  have HInv := Lib.hid hi
  clear h hi
  generalize hn : seats.length = n at *
  have HN := Lib.hid hn
  clear hn
  go_enter Try.func40, Try.ntmps40
  go_wp2_with fail
  go_loopw [3, 4] (fun o l wx => ∃ (k : Nat) (last : ByteArray), k ≤ n ∧ l = .string last ∧ last = lastN seats k ∧ wx.ownsRow w.heap.size 9 1 o k ((seats.take k).map nmC) ∧ Below w.heap.size w wx) (fun o _ _ => n + 1 - lenOf o)
  case atStart => exact ⟨0, em, by omega, rfl, rfl, own_nil _ _ _ _, Below.refl _ _⟩
  case round =>
    obtain ⟨k, last, hk, rfl, hlast, hown, hB⟩ := hrel
    obtain ⟨As, cs, hv, -, -, -⟩ := own_shape hown
    subst hv
    have hr := H.out.below hB
    have hc := hr.ho.cell
    have HR := Lib.hid hr
    have HOw := Lib.hid hown
    have HB := Lib.hid hB
    have HLa := Lib.hid hlast
    clear hown hB hr hlast
    go_wp2_with fail
    go_loop [5, 6] (fun b i => ∃ (j : Nat) (r : ByteArray), j ≤ R ∧ i = .int .i64 j ∧ b = .string r ∧ Best last (slots.take j) r) (fun _ i => R - (intOf i).toNat)
    case atStart => exact ⟨0, em, by omega, rfl, rfl, Best.nil _⟩
    case round =>
      obtain ⟨j, r, hj, rfl, rfl, hbest⟩ := hrel
      have HBt := Lib.hid hbest
      clear hbest
      by_cases hlt : j < R
      · obtain ⟨s, hs⟩ : ∃ s, slots[j]? = some s := ⟨_, List.getElem?_eq_getElem (by rw [HL.out]; exact hlt)⟩
        have hcell := HR.out.cell hs
        have htk : slots.take (j + 1) = slots.take j ++ [s] := by rw [List.take_add_one, hs]; rfl
        have HTk := Lib.hid htk
        clear htk hs
        cases hb1 : bl last s with
        | false =>
          have HBt2 : Hid (Best last (slots.take (j + 1)) r) := Lib.hid (by rw [HTk.out]; exact HBt.out.skip hb1)
          by_cases hq : s = last
          · subst hq
            have e1 : Op.bytesLess s.toList s.toList = false := bL_irrefl _
            clear hb1
            go_wp2_with fail
            go_round
            case rel => exact ⟨j + 1, r, by omega, by go_num, rfl, HBt2.out⟩
            case measure => simp [intOf]; omega
          · have e1 : Op.bytesLess s.toList last.toList = true := by
              cases hb : bl s last with
              | true => exact hb
              | false => exact absurd (bl_total hb hb1) hq
            clear hb1
            go_wp2_with fail
            go_round
            case rel => exact ⟨j + 1, r, by omega, by go_num, rfl, HBt2.out⟩
            case measure => simp [intOf]; omega
        | true =>
          have e1 : Op.bytesLess s.toList last.toList = false := bl_asymm hb1
          have e2 : ¬ s.toList = last.toList := fun e => bl_ne hb1 (toList_inj e.symm)
          have e3 : (s.toList == last.toList) = false := by simpa using e2
          by_cases hrm : r = em
          · subst hrm
            have e5 := em_isE
            have e6 := em_nil
            have HBt2 : Hid (Best last (slots.take (j + 1)) s) := Lib.hid (by rw [HTk.out]; exact HBt.out.take hb1 (.inl rfl))
            clear hb1
            go_wp2_with fail
            go_round
            case rel => exact ⟨j + 1, s, by omega, by go_num, rfl, HBt2.out⟩
            case measure => simp [intOf]; omega
          · have e5 : r.toList.isEmpty = false := ne_isE (emB_ne hrm)
            have e6 : ¬ r.toList = [] := by simpa using e5
            have e7 : (r.toList == []) = false := by simpa using e6
            cases hb2 : bl s r with
            | true =>
              have e8 : Op.bytesLess s.toList r.toList = true := hb2
              have HBt2 : Hid (Best last (slots.take (j + 1)) s) := Lib.hid (by rw [HTk.out]; exact HBt.out.take hb1 (.inr hb2))
              clear hb1 hb2
              go_wp2_with fail
              go_round
              case rel => exact ⟨j + 1, s, by omega, by go_num, rfl, HBt2.out⟩
              case measure => simp [intOf]; omega
            | false =>
              have e8 : Op.bytesLess s.toList r.toList = false := hb2
              have HBt2 : Hid (Best last (slots.take (j + 1)) r) := Lib.hid (by rw [HTk.out]; exact HBt.out.keep hrm hb2)
              clear hb1 hb2
              go_wp2_with fail
              go_round
              case rel => exact ⟨j + 1, r, by omega, by go_num, rfl, HBt2.out⟩
              case measure => simp [intOf]; omega
      · obtain rfl : j = R := by omega
        have hbt := HBt.out
        rw [List.take_of_length_le (by rw [HL.out]; exact Nat.le_refl _), HLa.out] at hbt
        have hrn := hbt.last HInv.out (by rw [HN.out]; exact hk)
        have HRn := Lib.hid hrn
        clear hbt hrn
        by_cases hkn : k < n
        · obtain ⟨p, hp⟩ : ∃ p, seats[k]? = some p := ⟨_, List.getElem?_eq_getElem (by rw [HN.out]; exact hkn)⟩
          have hrp : r = p.1 := by rw [HRn.out]; unfold nthN; rw [hp]
          have hne := (HInv.out.sl p (List.mem_of_getElem? hp)).2
          rw [← hrp] at hne
          have e5 : r.toList.isEmpty = false := ne_isE (emB_ne hne)
          have e6 : ¬ r.toList = [] := by simpa using e5
          have e7 : (r.toList == []) = false := by simpa using e6
          have hbs := HB.out.size
          have Hn3 : Hid (k + 1 ≤ 1000000) := by show _ ≤ _; omega
          have HP := Lib.hid hp
          have HRp := Lib.hid hrp
          clear hp hrp hne
          go_wp2_with (at_builtin; refine append1 rfl (.tmp 50) (.tmp 52) 68 rfl w.heap.size 9 i0 _ 1 16 Try.underlying68 HI.out HZ0.out HZ1.out HZ2.out rfl (by decide) _ k _ rfl (own_mods HOw.out ((Mods.refl (fun _ => False) _).alloc (.cells #[.string r] 9)) (fun _ _ => id)) _ [.string r] rfl (Ob.new _ 9 [.string r]) rfl (by simp [Value.oneCell']) Hn3.out (by decide) (by simp; omega) (fun v5 w5 hown5 hg5 hat5 => ?_))
          have hB5 : Below w.heap.size w w5 := (HB.out.alloc hbs (.cells #[.string r] 9)).grown hg5 (by simp; omega) (fun q hq => own_block HOw.out q hq)
          obtain ⟨A5, c5, hv5, -, -, -⟩ := own_shape hown5
          subst hv5
          have HOw5 := Lib.hid hown5
          have HB5 := Lib.hid hB5
          clear hown5 hg5 hat5 hB5
          go_wp2_with fail
          go_roundw
          case rel => exact ⟨k + 1, r, by omega, rfl, by rw [HRn.out]; rfl, by rw [List.take_add_one, HP.out, List.map_append]; have := HOw5.out; rw [HRp.out] at this; exact this, HB5.out⟩
          case measure => simp [lenOf]; omega
        · obtain rfl : k = n := by omega
          have hre : r = em := by rw [HRn.out]; unfold nthN; rw [List.getElem?_eq_none (by rw [HN.out]; exact Nat.le_refl _)]
          have HRn2 : True := trivial
          subst hre
          have e5 := em_isE
          have e6 := em_nil
          go_wp2_with fail
          go_ret
          refine ⟨_, rfl, ?_, HB.out⟩
          have := HOw.out
          rwa [List.take_of_length_le (by rw [HN.out]; exact Nat.le_refl _)] at this

set_option maxHeartbeats 1600000 in
theorem refSame (w : World) (A B : Option Addr) (n c d : Nat) (L : List Seat) (h1 : Rd w A n 1 (L.map nmC)) (h2 : Rd w B n 1 (L.map nmC)) (hl : L.length = n) (h9 : n ≤ 100000) :
    Calls Try.prog 41 #[.slice A n c, .slice B n d] w fun e w' => e = .returned (.bool true) ∧ ∃ k, w' = w.drewN k := by
  have HL := Lib.hid hl
  have H1 := Lib.hid h1
  have H2 := Lib.hid h2
  clear hl h1 h2
  go_enter Try.func41, Try.ntmps41
  go_wp2_with fail
  go_loopw [5] (fun i wx => ∃ k q : Nat, k ≤ n ∧ i = .int .i64 k ∧ wx = w.drewN q) (fun i _ => n - (intOf i).toNat)
  case atStart => exact ⟨0, 0, by omega, rfl, rfl⟩
  case round =>
    obtain ⟨k, q, hk, rfl, rfl⟩ := hrel
    by_cases hlt : k < n
    · obtain ⟨p, hp⟩ : ∃ p, L[k]? = some p := ⟨_, List.getElem?_eq_getElem (by rw [HL.out]; exact hlt)⟩
      obtain ⟨g1, o1, hA, -, hc1⟩ := H1.out.2.2 (by omega)
      obtain ⟨g2, o2, hB, -, hc2⟩ := H2.out.2.2 (by omega)
      subst hA; subst hB
      have x1 : w.cell? ⟨g1, o1 + k, none⟩ = some (.string p.1) := hc1 k _ (by rw [List.getElem?_map, hp]; rfl)
      have x2 : w.cell? ⟨g2, o2 + k, none⟩ = some (.string p.1) := hc2 k _ (by rw [List.getElem?_map, hp]; rfl)
      clear hc1 hc2 hp
      generalize p.1 = s at *
      go_upto_region 6 with (fail)
      go_quiet (fail)
      go_wp2_with fail
      go_roundw
      case rel => exact ⟨k + 1, _, by omega, by go_num, rfl⟩
      case measure => simp [intOf]; omega
    · go_wp2_with fail
      go_ret
      exact ⟨rfl, _, rfl⟩

end Go.Proofs.Ytjhlaifflhjafaa
