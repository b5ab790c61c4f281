import Derived.Test.YtjhlaifflhjafaaRj
import Derived.Laws.MakeOwn
namespace Go.Proofs.Ytjhlaifflhjafaa
open Go.RowKit

set_option maxHeartbeats 3200000 in
set_option maxRecDepth 100000 in
theorem rosDrop (w : World) (rb gt gn R : Nat) (slots : List ByteArray) (seats : List Seat) (v : Value) (h : RosAt w rb gt gn R slots seats v) (nm : ByteArray) :
    Calls Try.prog 29 #[.pointer (some ⟨rb, 0, none⟩), .string nm] w fun e w' => e = .returned (.int .i64 (dropS slots nm).1) ∧ ∃ seats' v', RosAt w' rb gt gn R (dropS slots nm).2 seats' v' ∧ RosM w w' rb gt gn v v' := by
  have hc := h.ho.cell
  have hR1 := h.hR.1
  have hR2 := h.hR.2
  have hlen := h.len
  have hrw := h.ho.lt
  have H := Lib.hid h
  have hpl := rosPlace w rb gt gn R slots seats v h nm
  rcases h.inv.fnd nm with ⟨i, hf, ht, hp⟩ | ⟨hf, ht⟩
  · have e : dropS slots nm = (0, slots.set i em) := by unfold dropS; rw [hf]
    rw [e]
    rw [ht] at hpl
    have hK := (List.getElem?_eq_some_iff.1 hp).1
    have hsl := (h.inv.sl _ (List.mem_of_getElem? hp)).1
    have hiR : i < R := by rw [← h.hl]; exact (List.getElem?_eq_some_iff.1 hsl).1
    simp only at hsl
    generalize posN seats nm = K at *
    have hinv := h.inv.drop hp
    have HInv := Lib.hid hinv
    have HPL := Lib.hid hpl
    have HPK := Lib.hid hp
    have HSL := Lib.hid hsl
    have HLs := Lib.hid h.hl
    clear e hf ht hp hpl hsl hinv h
    go_enter Try.func29, Try.ntmps29
    go_upto_region 6 with (first
      | (go_at_call 67; refine (rosIs_some _ rb gt R (hc 1) hR1).mono ?_; rintro e w' ⟨rfl, rfl⟩)
      | (go_at_call 68; refine HPL.out.mono ?_; rintro e w2 ⟨rfl, hb2⟩))
    refine cutW (fun W => RosAt W rb gt gn R slots seats v ∧ Below w.heap.size w W) ⟨H.out.below hb2, hb2⟩ ?_
    clear hc hb2 H HPL
    rintro W ⟨h, hB⟩
    have hc := h.ho.cell
    have H := Lib.hid h
    have HB := Lib.hid hB
    have hw9 := hB.size
    obtain ⟨A, c, hv, hRd, hc1, hc2⟩ := own_shape h.hown
    subst hv
    obtain ⟨g, off, hA, hgl, hg⟩ := hRd.2.2 (by omega)
    subst hA
    have hcell := hg _ _ (flat_at seatC 2 (fun _ => rfl) seats K 1 _ HPK.out (by omega))
    rw [← Nat.add_assoc] at hcell
    have x0 : W.cell? ⟨g, off + K * 2 + 1, none⟩ = some (.int .i64 i) := hcell
    have x1 : W.cell? ⟨gt, i, none⟩ = some (.bool (!emB nm)) := (h.ht.cell i).trans (by rw [List.getElem?_map, HSL.out]; rfl)
    have x2 : W.cell? ⟨gn, i, none⟩ = some (.string nm) := (h.hn.cell i).trans (by rw [List.getElem?_map, HSL.out]; rfl)
    have z1 := h.ht.frozen
    have z2 := h.hn.frozen
    have b1 := h.ht.lt
    have b2 := h.hn.lt
    have b3 := h.ho.lt
    have l1 := h.l1
    have l2 := h.l2
    have l3 := h.l3
    have n1 : rb ≠ gt := by omega
    have n2 : rb ≠ gn := by omega
    have n3 : gn ≠ gt := by omega
    have d0 : (0 : Int) ≤ i := by omega
    clear h hB hRd hg hcell
    generalize hnn : seats.length = n at *
    have HNN := Lib.hid hnn
    clear hnn
    go_upto_region 7 with (fail)
    go_region
    go_upto_region 8 with (fail)
    have hm0 : Mods (fun k => k = gt ∨ k = gn) W (((W.setCell ⟨gt, i, none⟩ (.bool false)).setCell ⟨gn, i, none⟩ (.string ⟨#[]⟩)).drew) := (((Mods.refl _ W).setCell (⟨gt, i, none⟩ : Addr) (.inl (.inl rfl)) _).setCell (⟨gn, i, none⟩ : Addr) (.inl (.inr rfl)) _).drew
    have ht0 := ((H.out.ht.set i (.bool false)).upd ((Upd.refl gn _).set i (.string ⟨#[]⟩)) l3).drew
    have hn0 := ((H.out.hn.upd ((Upd.refl gt W).set i (.bool false)) n3).set i (.string em)).drew
    have es : (slots.map fun s => Value.bool (!emB s)).set i (.bool false) = (slots.set i em).map fun s => Value.bool (!emB s) := by
      rw [← map_set' (fun s => Value.bool (!emB s)) slots i em, emB_em]; rfl
    rw [es] at ht0
    rw [map_set' Value.string slots i em] at hn0
    refine cutW (fun V => Ob V rb 80 [.slice (some ⟨g, off, none⟩) n c, .slice (some ⟨gt, 0, none⟩) R R, .slice (some ⟨gn, 0, none⟩) R R] ∧ Ob V gt 4 ((slots.set i em).map fun s => Value.bool (!emB s)) ∧ Ob V gn 9 ((slots.set i em).map Value.string) ∧ V.ownsRow (rb + 1) 118 2 (.slice (some ⟨g, off, none⟩) n c) n (seats.flatMap seatC) ∧ Mods (fun k => k = gt ∨ k = gn) w V) ⟨H.out.ho.mods hm0 (by omega), ht0, hn0, by rw [← HNN.out]; exact own_mods (by have := H.out.hown; rwa [HNN.out] at this ⊢) hm0 (fun k hk hg => by have := own_block H.out.hown k hk; omega), (Below.mods_ HB.out _).trans hm0⟩ ?_
    clear hm0 ht0 hn0 es x0 x1 x2 z1 z2 H HB hc
    rintro V ⟨ho, ht, hn, hown, hM⟩
    have hc := ho.cell
    have b3 := ho.lt
    have hob := own_block hown
    have hw1 : IntKind.i64.wrap ((K : Int) + 1) = (K : Int) + 1 := by rw [IntWalk.i64_in _ (by omega)]
    have hdel := delete71 V (rb + 1) _ n K (seats.flatMap seatC) hown hK (seat1 _) (by omega)
    have HDel := Lib.hid hdel
    have HO := Lib.hid ho
    have HT := Lib.hid ht
    have HN := Lib.hid hn
    have HM := Lib.hid hM
    have HOb := Lib.hid hob
    clear hdel ho ht hn hown hM hob
    go_wp2_with (go_at_call 71; refine HDel.out.mono ?_; rintro e w6 ⟨v6, rfl, hown6, hg6, hat6⟩; obtain ⟨A6, c6, hv6, -, -, -⟩ := own_shape hown6; subst hv6; have ho6 := HO.out.grown hg6 (fun k hk => by have := HOb.out k hk; omega); have hc6 := ho6.cell; have hz6 := ho6.frozen; have hl6 := ho6.lt; have HO6 := Lib.hid ho6; have HOw6 := Lib.hid hown6; have HG6 := Lib.hid hg6; have HA6 := Lib.hid hat6; clear ho6 hown6 hg6 hat6)
    go_ret
    have hu := (Upd.refl rb w6).set 0 (.slice A6 (n - 1) c6)
    have hgr := fun (b : Nat) (t : TypeId) (cs : List Value) (hO : Ob V b t cs) (hb : b < rb) => (hO.grown HG6.out (fun k hk => by have := HOb.out k hk; omega)).upd hu (by omega)
    refine ⟨rfl, cutAt K seats, _, ⟨HO6.out.set 0 (.slice A6 (n - 1) c6), hgr _ _ _ HT.out (by omega), hgr _ _ _ HN.out (by omega), ?_, by simp [HLs.out], ⟨hR1, hR2⟩, HInv.out, by omega, by omega, by omega⟩, ?_, .inl ?_⟩
    · have h7 := own_upd HOw6.out hu (by omega)
      rw [delV_flat seatC 2 (fun _ => rfl)] at h7
      rw [cutAt_len (by rw [HNN.out]; exact hK), HNN.out]
      exact h7
    · rw [HNN.out]
      have hM7 := (HM.out.mono (T := fun k => k = rb ∨ k = gt ∨ k = gn ∨ (Value.slice (some ⟨g, off, none⟩) n c).ownBlock = some k) (fun k _ hk => by rcases hk with h | h; exact .inr (.inl h); exact .inr (.inr (.inl h)))).grown HG6.out (fun k hk => .inl (.inr (.inr (.inr hk))))
      exact hM7.setCell (⟨rb, 0, none⟩ : Addr) (.inl (.inl rfl)) _
    · rw [HNN.out]; exact HA6.out
  · have e : dropS slots nm = (42, slots) := by unfold dropS; rw [hf]
    rw [e]
    rw [ht] at hpl
    have HPL := Lib.hid hpl
    clear e hf ht hpl h
    go_enter Try.func29, Try.ntmps29
    go_wp2_with (first
      | (go_at_call 67; refine (rosIs_some _ rb gt R (hc 1) hR1).mono ?_; rintro e w' ⟨rfl, rfl⟩)
      | (go_at_call 68; refine HPL.out.mono ?_; rintro e w2 ⟨rfl, hb2⟩))
    go_ret
    exact ⟨rfl, seats, v, H.out.below hb2, Below.mods_ hb2 _, .inl rfl⟩

end Go.Proofs.Ytjhlaifflhjafaa
