import Derived.Test.YtjhlaifflhjafaaRi
import Derived.BigRegion
import Derived.ChangeAlike
namespace Go.Proofs.Ytjhlaifflhjafaa
open Go.RowKit

set_option maxHeartbeats 1600000 in
theorem rosFind (w : World) (rb gt gn R : Nat) (slots : List ByteArray) (seats : List Seat) (v : Value) (h : RosAt w rb gt gn R slots seats v) (nm : ByteArray) :
    Calls Try.prog 30 #[.pointer (some ⟨rb, 0, none⟩), .string nm] w fun e w' => e = .returned (.tuple #[.int .i64 (findS slots nm).1, .bool (findS slots nm).2]) ∧ Below w.heap.size w w' := by
  have hc := h.ho.cell
  have hR1 := h.hR.1
  have hR2 := h.hR.2
  have hlen := h.len
  have hpl := rosPlace w rb gt gn R slots seats v h nm
  have HP := Lib.hid hpl
  have H := Lib.hid h
  rcases h.inv.fnd nm with ⟨i, hf, ht, hp⟩ | ⟨hf, ht⟩
  · have e : findS slots nm = ((i : Int), true) := by unfold findS; rw [hf]
    rw [e]
    have hKn := (List.getElem?_eq_some_iff.1 hp).1
    rw [ht] at HP
    generalize posN seats nm = K at *
    have HK := Lib.hid hp
    clear e hf ht hp hpl h
    go_enter Try.func30, Try.ntmps30
    go_upto_region 6 with (first
      | (go_at_call 67; refine (rosIs_some _ rb gt R (hc 1) hR1).mono ?_; rintro e w' ⟨rfl, rfl⟩)
      | (go_at_call 68; refine HP.out.mono ?_; rintro e w' ⟨rfl, hb⟩))
    have h2 := H.out.below hb
    obtain ⟨A, c, hv, hRd, hc1, hc2⟩ := own_shape h2.hown
    subst hv
    obtain ⟨g, off, hA, hgl, hg⟩ := hRd.2.2 (by omega)
    subst hA
    have hcell := hg _ _ (flat_at seatC 2 (fun _ => rfl) seats K 1 _ HK.out (by omega))
    have hc' := h2.ho.cell
    have HB := Lib.hid hb
    rw [← Nat.add_assoc] at hcell
    simp only at hcell
    clear hg hRd h2 hc hb
    generalize seats.length = n at *
    go_wp2_with fail
    go_ret2
    exact ⟨rfl, HB.out⟩
  · have e : findS slots nm = (0, false) := by unfold findS; rw [hf]
    rw [e]
    rw [ht] at HP
    clear e hf ht hpl h
    go_enter Try.func30, Try.ntmps30
    go_wp2_with (first
      | (go_at_call 67; refine (rosIs_some _ rb gt R (hc 1) hR1).mono ?_; rintro e w' ⟨rfl, rfl⟩)
      | (go_at_call 68; refine HP.out.mono ?_; rintro e w' ⟨rfl, hb⟩))
    go_ret2
    exact ⟨rfl, hb⟩

/-- What a method that writes has done. -/
def RosM (w w' : World) (rb gt gn : Nat) (v v' : Value) : Prop :=
  Mods (fun k => k = rb ∨ k = gt ∨ k = gn ∨ v.ownBlock = some k) w w' ∧ (v'.ownBlock = v.ownBlock ∨ ∃ k, v'.ownBlock = some k ∧ w.heap.size ≤ k)
theorem seat1 (l : List Seat) : ∀ u ∈ l.flatMap seatC, u.oneCell' = true := by
  intro u hu
  obtain ⟨p, _, hu⟩ := List.mem_flatMap.1 hu
  simp only [seatC, List.mem_cons, List.not_mem_nil, or_false] at hu
  rcases hu with rfl | rfl <;> rfl
theorem map_set' {α β : Type} (f : α → β) : ∀ (l : List α) (i : Nat) (x : α), (l.map f).set i (f x) = (l.set i x).map f
  | [], _, _ => rfl
  | a :: l, 0, x => rfl
  | a :: l, i + 1, x => by show f a :: (l.map f).set i (f x) = _; rw [map_set' f l i x]; rfl

set_option maxHeartbeats 3200000 in
set_option maxRecDepth 100000 in
theorem rosPut (w : World) (rb gt gn R : Nat) (slots : List ByteArray) (seats : List Seat) (v : Value) (h : RosAt w rb gt gn R slots seats v) (nm : ByteArray) :
    Calls Try.prog 27 #[.pointer (some ⟨rb, 0, none⟩), .string nm] w fun e w' => e = .returned (.tuple #[.int .i64 (putS slots nm).1.1, .int .i64 (putS slots nm).1.2]) ∧ ∃ seats' v', RosAt w' rb gt gn R (putS slots nm).2 seats' v' ∧ RosM w w' rb gt gn v v' := by
  have hc := h.ho.cell
  have hR1 := h.hR.1
  have hR2 := h.hR.2
  have hlen := h.len
  have H := Lib.hid h
  have hvd := kValid w nm
  obtain ⟨P, hP⟩ : ∃ P, putS slots nm = P := ⟨_, rfl⟩
  rw [hP]
  obtain ⟨nb, hnb⟩ : ∃ nb, nameB nm = nb := ⟨_, rfl⟩
  rw [hnb] at hvd
  have HV := Lib.hid hvd
  unfold putS at hP
  rw [hnb] at hP
  have hnn : nb = true → nm ≠ em := fun hb => by rintro rfl; rw [← hnb] at hb; exact absurd hb (by decide)
  have HNN := Lib.hid hnn
  clear hnb hvd hnn
  cases nb with
  | false =>
    rw [if_neg (by decide)] at hP
    have HPP := Lib.hid hP
    clear hP h
    go_enter Try.func27, Try.ntmps27
    go_wp2_with (first
      | (go_at_call 67; refine (rosIs_some _ rb gt R (hc 1) hR1).mono ?_; rintro e w' ⟨rfl, rfl⟩)
      | (go_at_call 16; refine HV.out.mono ?_; rintro e w' ⟨rfl, hb⟩))
    go_ret2
    rw [← HPP.out]
    exact ⟨rfl, seats, v, H.out.below hb, Below.mods_ hb _, .inl rfl⟩
  | true =>
  rw [if_pos rfl] at hP
  have HNE : Hid (nm ≠ em) := Lib.hid (HNN.out rfl)
  clear HNN
  have hrw := h.ho.lt
  have hpl := fun W hW => rosPlace W rb gt gn R slots seats v hW nm
  rcases h.inv.fnd nm with ⟨i, hf, ht, hp⟩ | ⟨hf, ht⟩
  · rw [hf] at hP
    simp only at hP
    rw [ht] at hpl
    have HPP := Lib.hid hP
    have HPL := Lib.hid hpl
    clear hP h hf ht hp hpl
    go_enter Try.func27, Try.ntmps27
    go_wp2_with (first
      | (go_at_call 67; refine (rosIs_some _ rb gt R (hc 1) hR1).mono ?_; rintro e w' ⟨rfl, rfl⟩)
      | (go_at_call 16; refine HV.out.mono ?_; rintro e w' ⟨rfl, hb⟩)
      | (go_at_call 68; refine (HPL.out _ (H.out.below hb)).mono ?_; rintro e w2 ⟨rfl, hb2⟩))
    go_ret2
    rw [← HPP.out]
    exact ⟨rfl, seats, v, (H.out.below hb).below hb2, Below.mods_ (hb.trans (hb2.mono hb.size)) _, .inl rfl⟩
  · rw [hf] at hP
    simp only at hP
    rw [ht] at hpl
    have HPL := Lib.hid hpl
    have hls := h.hl
    have hnot := fndS_not hf HNE.out
    have HNot := Lib.hid hnot
    clear hpl hf ht hnot
    have hix := fun W (ho : Ob W gt 4 (slots.map fun s => Value.bool (!emB s))) => rosIndex W gt R slots ho hls hR2
    rw [hls] at hP
    generalize hF : freeI slots = F at *
    have hK := posN_le seats nm
    generalize hKK : posN seats nm = K at *
    have HKK := Lib.hid hKK
    have HF := Lib.hid hF
    have HLs := Lib.hid hls
    by_cases hFR : F < R
    · rw [if_pos hFR] at hP
      have e1 : frI F R = (F : Int) := if_pos hFR
      rw [e1] at hix
      have HPP := Lib.hid hP
      have HIX := Lib.hid hix
      clear hP hix e1 h hKK hF hls
      go_enter Try.func27, Try.ntmps27
      go_upto_region 8 with (first
        | (go_at_call 67; refine (rosIs_some _ rb gt R (hc 1) hR1).mono ?_; rintro e w' ⟨rfl, rfl⟩)
        | (go_at_call 16; refine HV.out.mono ?_; rintro e w' ⟨rfl, hb⟩)
        | (go_at_call 68; refine (HPL.out _ (H.out.below hb)).mono ?_; rintro e w2 ⟨rfl, hb2⟩))
      refine cutW (fun W => RosAt W rb gt gn R slots seats v ∧ Below w.heap.size w W) ⟨(H.out.below hb).below hb2, hb.trans (hb2.mono hb.size)⟩ ?_
      have hol := own_lt H.out.hown
      have HOL := Lib.hid hol
      clear hc hb hb2 H HV hol
      rintro W ⟨h, hB⟩
      have hc := h.ho.cell
      have H := Lib.hid h
      have HB := Lib.hid hB
      obtain ⟨s, hs⟩ : ∃ s, slots[F]? = some s := ⟨_, List.getElem?_eq_getElem (by rw [HLs.out]; exact hFR)⟩
      have hsem : s = em := emB_iff.1 (idxP_at emB (l := slots) (by have := HF.out; unfold freeI at this; rw [this]; exact hs))
      subst hsem
      have HS := Lib.hid hs
      have x1 : W.cell? ⟨gt, F, none⟩ = some (.bool (!emB em)) := (h.ht.cell F).trans (by rw [List.getElem?_map, hs]; rfl)
      have x2 : W.cell? ⟨gn, F, none⟩ = some (.string em) := (h.hn.cell F).trans (by rw [List.getElem?_map, hs]; rfl)
      have z1 := h.ht.frozen
      have z2 := h.hn.frozen
      have b1 := h.ht.lt
      have b2 := h.hn.lt
      have b3 := h.ho.lt
      have l1 := h.l1
      have l2 := h.l2
      have l3 := h.l3
      have n1 : rb ≠ gt := by omega
      have n2 : rb ≠ gn := by omega
      have n3 : gn ≠ gt := by omega
      have d0 : (0 : Int) ≤ F := by omega
      clear h hB hs
      go_upto_region 11 with (go_at_call 69; refine (HIX.out _ H.out.ht).mono ?_; rintro e w' ⟨rfl, rfl⟩)
      go_region
      go_upto_region 12 with (fail)
      have hm0 : Mods (fun k => k = gt ∨ k = gn) W (((W.setCell ⟨gt, F, none⟩ (.bool true)).setCell ⟨gn, F, none⟩ (.string nm)).drew) := (((Mods.refl _ W).setCell (⟨gt, F, none⟩ : Addr) (.inl (.inl rfl)) _).setCell (⟨gn, F, none⟩ : Addr) (.inl (.inr rfl)) _).drew
      have ht0 := ((H.out.ht.set F (.bool true)).upd ((Upd.refl gn _).set F (.string nm)) l3).drew
      have hn0 := ((H.out.hn.upd ((Upd.refl gt W).set F (.bool true)) n3).set F (.string nm)).drew
      have hne0 : emB nm = false := emB_ne HNE.out
      have es : (slots.map fun s => Value.bool (!emB s)).set F (.bool true) = (slots.set F nm).map fun s => Value.bool (!emB s) := by
        rw [← map_set' (fun s => Value.bool (!emB s)) slots F nm, hne0]; rfl
      rw [es] at ht0
      rw [map_set' Value.string slots F nm] at hn0
      refine cutW (fun V => Ob V rb 80 [v, .slice (some ⟨gt, 0, none⟩) R R, .slice (some ⟨gn, 0, none⟩) R R] ∧ Ob V gt 4 ((slots.set F nm).map fun s => Value.bool (!emB s)) ∧ Ob V gn 9 ((slots.set F nm).map Value.string) ∧ V.ownsRow (rb + 1) 118 2 v seats.length (seats.flatMap seatC) ∧ Mods (fun k => k = gt ∨ k = gn) w V) ⟨H.out.ho.mods hm0 (by omega), ht0, hn0, own_mods H.out.hown hm0 (fun k hk hg => by have := own_block H.out.hown k hk; omega), (Below.mods_ HB.out _).trans hm0⟩ ?_
      have hinv := (H.out.inv).put HNE.out HNot.out HS.out
      rw [HKK.out] at hinv
      have HInv := Lib.hid hinv
      have hw9 := HB.out.size
      clear hm0 ht0 hn0 es hne0 x1 x2 z1 z2 H HB HS hinv hc HIX
      rintro V ⟨ho, ht, hn, hown, hM⟩
      have hc := ho.cell
      have b3 := ho.lt
      have hob := own_block hown
      have hol := own_lt hown
      have hins := insert70 (V.alloc (.cells #[.string nm, .int .i64 F] 118)) (rb + 1) v seats.length K (seats.flatMap seatC) (seatC (nm, F)) (own_mods hown ((Mods.refl (fun _ => False) V).alloc _) (fun _ _ => id)) hK V.heap.size (Ob.new V 118 [.string nm, .int .i64 F]) (fun k hk => by have := hol k hk; omega) rfl (by simp [seatC, Value.oneCell']) (seat1 _) (by omega) (by simp; omega)
      have HIns := Lib.hid hins
      have HO := Lib.hid ho
      have HT := Lib.hid ht
      have HN := Lib.hid hn
      have HM := Lib.hid hM
      have HOb := Lib.hid hob
      clear hins ho ht hn hown hM hob hol
      go_wp2_with (go_at_call 70; refine HIns.out.mono ?_; rintro e w6 ⟨v6, rfl, hown6, hg6, hat6⟩; obtain ⟨A6, c6, hv6, -, -, -⟩ := own_shape hown6; subst hv6; have ho6 := (HO.out.alloc (.cells #[.string nm, .int .i64 F] 118)).grown hg6 (fun k hk => by have := HOb.out k hk; omega); have hc6 := ho6.cell; have hz6 := ho6.frozen; have hl6 := ho6.lt; have HO6 := Lib.hid ho6; have HOw6 := Lib.hid hown6; have HG6 := Lib.hid hg6; have HA6 := Lib.hid hat6; clear ho6 hown6 hg6 hat6)
      go_ret2
      rw [← HPP.out]
      have hu := (Upd.refl rb w6).set 0 (.slice A6 (seats.length + 1) c6)
      have hgr := fun (b : Nat) (t : TypeId) (cs : List Value) (hO : Ob V b t cs) (hb : b < rb) => ((hO.alloc (.cells #[.string nm, .int .i64 F] 118)).grown HG6.out (fun k hk => by have := HOb.out k hk; omega)).upd hu (by omega)
      refine ⟨rfl, putAt K (nm, F) seats, _, ⟨HO6.out.set 0 (.slice A6 (seats.length + 1) c6), hgr _ _ _ HT.out (by omega), hgr _ _ _ HN.out (by omega), ?_, by simp [HLs.out], ⟨hR1, hR2⟩, HInv.out, by omega, by omega, by omega⟩, ?_, ?_⟩
      · have h7 := own_upd HOw6.out hu (by omega)
        rw [insV_flat seatC 2 (fun _ => rfl)] at h7
        rw [putAt_len hK]
        exact h7
      · have hM7 := ((HM.out.mono (T := fun k => k = rb ∨ k = gt ∨ k = gn ∨ v.ownBlock = some k) (fun k _ hk => by rcases hk with h | h; exact .inr (.inl h); exact .inr (.inr (.inl h)))).alloc (.cells #[.string nm, .int .i64 F] 118)).grown HG6.out (fun k hk => .inl (.inr (.inr (.inr hk))))
        exact hM7.setCell (⟨rb, 0, none⟩ : Addr) (.inl (.inl rfl)) _
      · rcases HA6.out with h | ⟨k, h1, h2⟩
        · exact .inl h
        · exact .inr ⟨k, h1, by have := HM.out.size; simp at h2; omega⟩
    · rw [if_neg hFR] at hP
      have e1 : frI F R = -1 := if_neg hFR
      rw [e1] at hix
      have HPP := Lib.hid hP
      have HIX := Lib.hid hix
      clear hP hix e1 h hKK hF hls
      go_enter Try.func27, Try.ntmps27
      go_wp2_with (first
        | (go_at_call 67; refine (rosIs_some _ rb gt R (hc 1) hR1).mono ?_; rintro e w' ⟨rfl, rfl⟩)
        | (go_at_call 16; refine HV.out.mono ?_; rintro e w' ⟨rfl, hb⟩)
        | (go_at_call 68; refine (HPL.out _ (H.out.below hb)).mono ?_; rintro e w2 ⟨rfl, hb2⟩; have hro := ((H.out.below hb).below hb2).ho.cell)
        | (go_at_call 69; refine (HIX.out _ ((H.out.below hb).below hb2).ht).mono ?_; rintro e w' ⟨rfl, rfl⟩))
      go_ret2
      rw [← HPP.out]
      exact ⟨rfl, seats, v, (H.out.below hb).below hb2, Below.mods_ (hb.trans (hb2.mono hb.size)) _, .inl rfl⟩

end Go.Proofs.Ytjhlaifflhjafaa
