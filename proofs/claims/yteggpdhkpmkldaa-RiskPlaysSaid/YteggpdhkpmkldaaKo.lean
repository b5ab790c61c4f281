import Derived.Test.YteggpdhkpmkldaaKn
namespace Go.Proofs.Yteggpdhkpmkldaa
open Go.RowKit

theorem inB_in (n : Nat) (i : Int) : (decide (0 ≤ i) && decide (i ≤ (n : Int) - 1)) = inB n i := by unfold inB; congr 1; simp; omega

section
variable (w : World) (B br gd gw cw n c : Nat) (A : Option Addr) (ls : List Int) (ps : List Purse) (hs : List Hold)
/-- A ref write's end. -/
def RfP (w : World) (B br gd gw cw n c : Nat) (A : Option Addr) (ls : List Int) (r : BSt) (e : Ending) (w' : World) : Prop :=
  e = .returned (.int .i64 r.1) ∧ RfAt w' B br gd gw cw A n c ls r.2.1 r.2.2 ∧ Mods (fun k => k = gd ∨ k = gw) w w'

set_option maxHeartbeats 1600000 in
theorem rReserve_any (a s m : Int) (h : RfAt w B br gd gw cw A n c ls ps hs) (hi : BInv ls ps hs) :
    Calls Try.prog 62 #[.pointer (some ⟨br, 0, none⟩), .int .i64 a, .int .i64 s, .int .i64 m] w fun e w' => RfP w B br gd gw cw n c A ls (bRes ps hs a s m) e w' := by
  have hc := h.ho.cell
  have hn9 := h.hn.2
  have hh9 := h.hhs
  have hpl := h.hp
  have i1 := inB_in n a
  have i2 := inB_in hs.length s
  have hw1 : IntKind.i64.wrap ((n : Int) - 1) = (n : Int) - 1 := by rw [IntWalk.i64_in _ (by omega)]
  have hw2 : IntKind.i64.wrap ((hs.length : Int) - 1) = (hs.length : Int) - 1 := by rw [IntWalk.i64_in _ (by omega)]
  have I1 := Lib.hid i1
  have I2 := Lib.hid i2
  have HH := Lib.hid h
  have HI := Lib.hid hi
  clear i1 i2 h hi
  by_cases hg : inB ps.length a = true ∧ inB hs.length s = true ∧ inLim m = true
  · obtain ⟨g1, g2, g3⟩ := hg
    obtain ⟨a, rfl, ha⟩ := inB_toNat g1
    obtain ⟨s, rfl, hs'⟩ := inB_toNat g2
    obtain ⟨p, hp⟩ : ∃ p, ps[a]? = some p := ⟨_, List.getElem?_eq_getElem ha⟩
    obtain ⟨x, hx⟩ : ∃ x, hs[s]? = some x := ⟨_, List.getElem?_eq_getElem hs'⟩
    obtain ⟨lx, hlx⟩ : ∃ lx, ls[a]? = some lx := ⟨_, List.getElem?_eq_getElem (by have := HH.out.hn.1; omega)⟩
    obtain ⟨c0, c1⟩ := HH.out.w2 hx
    have hlp : lx = p.1 := by
      have := HI.out.hl
      rw [← this, List.getElem?_map, hp] at hlx
      injection hlx with hlx
      exact hlx.symm
    have hleft : lx - bUsed ps a = p.1 - p.2.1 - p.2.2 := by
      unfold bUsed
      rw [if_pos g1, pAt_of hp, hlp]; omega
    have g1' : inB n (a : Int) = true := by rw [← hpl]; exact g1
    have G1 := Lib.hid g1'
    have G2 := Lib.hid g2
    have g3' : (decide (0 ≤ m) && decide (m ≤ 4611686018427387904)) = true := g3
    have G3 := Lib.hid g3'
    have hbr : bRes ps hs a s m = if x ≠ hold0 then (41, ps, hs) else if p.1 - p.2.1 - p.2.2 < m then (170, ps, hs) else (0, ps.set a (p.1, p.2.1 + m, p.2.2), hs.set s (true, (a : Int), m)) := by
      unfold bRes; rw [if_pos ⟨g1, g2, g3⟩, hAt_of hx, pAt_of hp]; rfl
    have Hp := Lib.hid hp
    have Hx := Lib.hid hx
    have Hlx := Lib.hid hlx
    have Hleft := Lib.hid hleft
    clear g1 g2 g1' g3' hp hlx hlp hleft hpl
    have hsz := HI.out.hh s x hx
    clear hx
    by_cases h0 : x = hold0
    · subst h0
      have e1 : (rfw hold0).1 = -1 := rfl
      rw [e1] at c0
      clear e1 hsz
      rw [if_neg (by simp)] at hbr
      obtain ⟨f, hf⟩ : ∃ f, decide (m ≤ lx - bUsed ps a) = f := ⟨_, rfl⟩
      have Hf := Lib.hid hf
      clear hf
      cases f with
      | true =>
        have hlt : ¬ p.1 - p.2.1 - p.2.2 < m := by have := Hf.out; rw [Hleft.out] at this; simp at this; omega
        rw [if_neg hlt] at hbr
        have Hbr := Lib.hid hbr
        clear hbr hlt
        have hz := HH.out.wfroz
        go_enter Try.func62, Try.ntmps62
        go_wp2_with (first | (go_at_call 61; refine (rIn _ _ _ _).mono ?_; rintro e w' ⟨rfl, rfl⟩; first | rw [I1.out, G1.out] | rw [I2.out, G2.out] | rw [G3.out]) | (go_at_call 77; refine (rFits_in w B br gd gw cw n c a A ls ps hs m lx HH.out HI.out Hlx.out true Hf.out).mono ?_; rintro e w' ⟨rfl, j, rfl⟩))
        go_ret
        rw [Hbr.out]
        refine ⟨rfl, ?_, (((Mods.refl _ w).drewN j).setCell (⟨gw, s * 2, none⟩ : Addr) (.inl (.inr rfl)) _).setCell (⟨gw, s * 2 + 1, none⟩ : Addr) (.inl (.inr rfl)) _⟩
        exact ((HH.out.drewN j).setW1 (y := (true, (a : Int), m)) Hx.out).sameP Hp.out rfl
      | false =>
        have hlt : p.1 - p.2.1 - p.2.2 < m := by have := Hf.out; rw [Hleft.out] at this; simp at this; omega
        rw [if_pos hlt] at hbr
        have Hbr := Lib.hid hbr
        clear hbr hlt
        go_enter Try.func62, Try.ntmps62
        go_wp2_with (first | (go_at_call 61; refine (rIn _ _ _ _).mono ?_; rintro e w' ⟨rfl, rfl⟩; first | rw [I1.out, G1.out] | rw [I2.out, G2.out] | rw [G3.out]) | (go_at_call 77; refine (rFits_in w B br gd gw cw n c a A ls ps hs m lx HH.out HI.out Hlx.out false Hf.out).mono ?_; rintro e w' ⟨rfl, j, rfl⟩))
        go_ret
        rw [Hbr.out]
        exact ⟨rfl, HH.out.drewN j, (Mods.refl _ w).drewN j⟩
    · rw [if_pos h0] at hbr
      have Hbr := Lib.hid hbr
      clear hbr
      rcases hsz with ⟨x1, b, x2, x3, x4⟩ | rfl
      · have e1 : (rfw x).1 = (b : Int) := by unfold rfw; rw [if_pos x1, x2]
        rw [e1] at c0
        clear h0 x1 x2 e1
        go_enter Try.func62, Try.ntmps62
        go_wp2_with (first | (go_at_call 61; refine (rIn _ _ _ _).mono ?_; rintro e w' ⟨rfl, rfl⟩; first | rw [I1.out, G1.out] | rw [I2.out, G2.out] | rw [G3.out]))
        go_ret
        rw [Hbr.out]
        exact ⟨rfl, HH.out, Mods.refl _ w⟩
      · exact absurd rfl h0
  · have hbr : bRes ps hs a s m = (2, ps, hs) := by unfold bRes; rw [if_neg hg]
    have Hbr := Lib.hid hbr
    clear hbr
    rw [hpl] at hg
    clear hpl
    cases g1 : inB n a with
    | false =>
      have G1 := Lib.hid g1
      clear g1 hg
      go_enter Try.func62, Try.ntmps62
      go_wp2_with (go_at_call 61; refine (rIn _ _ _ _).mono ?_; rintro e w' ⟨rfl, rfl⟩; rw [I1.out, G1.out])
      go_ret
      rw [Hbr.out]
      exact ⟨rfl, HH.out, Mods.refl _ w⟩
    | true =>
      have G1 := Lib.hid g1
      cases g2 : inB hs.length s with
      | false =>
        have G2 := Lib.hid g2
        clear g1 g2 hg
        go_enter Try.func62, Try.ntmps62
        go_wp2_with (go_at_call 61; refine (rIn _ _ _ _).mono ?_; rintro e w' ⟨rfl, rfl⟩; first | rw [I1.out, G1.out] | rw [I2.out, G2.out])
        go_ret
        rw [Hbr.out]
        exact ⟨rfl, HH.out, Mods.refl _ w⟩
      | true =>
        have G2 := Lib.hid g2
        have g3 : (decide (0 ≤ m) && decide (m ≤ 4611686018427387904)) = false := by
          cases h3 : inLim m
          · exact h3
          · exact absurd ⟨g1, g2, h3⟩ hg
        have G3 := Lib.hid g3
        clear g1 g2 g3 hg
        go_enter Try.func62, Try.ntmps62
        go_wp2_with (go_at_call 61; refine (rIn _ _ _ _).mono ?_; rintro e w' ⟨rfl, rfl⟩; first | rw [I1.out, G1.out] | rw [I2.out, G2.out] | rw [G3.out])
        go_ret
        rw [Hbr.out]
        exact ⟨rfl, HH.out, Mods.refl _ w⟩
end

end Go.Proofs.Yteggpdhkpmkldaa
