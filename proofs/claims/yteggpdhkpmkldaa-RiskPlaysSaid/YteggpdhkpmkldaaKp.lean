import Derived.Test.YteggpdhkpmkldaaKo
namespace Go.Proofs.Yteggpdhkpmkldaa
open Go.RowKit

section
variable (w : World) (B br gd gw cw n c : Nat) (A : Option Addr) (ls : List Int) (ps : List Purse) (hs : List Hold)

set_option maxHeartbeats 1600000 in
theorem rResize_any (s m : Int) (h : RfAt w B br gd gw cw A n c ls ps hs) (hi : BInv ls ps hs) :
    Calls Try.prog 63 #[.pointer (some ⟨br, 0, none⟩), .int .i64 s, .int .i64 m] w fun e w' => RfP w B br gd gw cw n c A ls (bRsz ps hs s m) e w' := by
  have hc := h.ho.cell
  have hn9 := h.hn.2
  have hh9 := h.hhs
  have hpl := h.hp
  have i2 := inB_in hs.length s
  have hw2 : IntKind.i64.wrap ((hs.length : Int) - 1) = (hs.length : Int) - 1 := by rw [IntWalk.i64_in _ (by omega)]
  have I2 := Lib.hid i2
  have HH := Lib.hid h
  have HI := Lib.hid hi
  clear i2 h hi
  by_cases hg : inB hs.length s = true ∧ inLim m = true
  · obtain ⟨g2, g3⟩ := hg
    obtain ⟨s, rfl, hs'⟩ := inB_toNat g2
    obtain ⟨x, hx⟩ : ∃ x, hs[s]? = some x := ⟨_, List.getElem?_eq_getElem hs'⟩
    obtain ⟨c0, c1⟩ := HH.out.w2 hx
    have G2 := Lib.hid g2
    have g3' : (decide (0 ≤ m) && decide (m ≤ 4611686018427387904)) = true := g3
    have G3 := Lib.hid g3'
    have hm2 : 0 ≤ m ∧ m ≤ 4611686018427387904 := by simpa using g3'
    obtain ⟨m0, m1⟩ := hm2
    have Hx := Lib.hid hx
    rcases HI.out.hh s x hx with ⟨x1, a, x2, ha, x3⟩ | rfl
    · obtain ⟨t, q, v⟩ := x
      simp only at x1 x2 x3
      subst x1 x2
      obtain ⟨p, hp⟩ : ∃ p, ps[a]? = some p := ⟨_, List.getElem?_eq_getElem ha⟩
      have hle := HI.out.held_le hx hp
      obtain ⟨o1, o2, o3, o4, o5⟩ := (HI.out.hp a p hp).1
      obtain ⟨lx, hlx⟩ : ∃ lx, ls[a]? = some lx := ⟨_, List.getElem?_eq_getElem (by have := HH.out.hn.1; omega)⟩
      have hlp : lx = p.1 := by
        have := HI.out.hl
        rw [← this, List.getElem?_map, hp] at hlx
        injection hlx with hlx
        exact hlx.symm
      have hleft : lx - bUsed ps a = p.1 - p.2.1 - p.2.2 := by
        unfold bUsed
        rw [if_pos (inB_lt ha), pAt_of hp, hlp]; omega
      have hbr : bRsz ps hs s m = if p.1 - p.2.1 - p.2.2 + v < m then (170, ps, hs) else (0, ps.set a (p.1, p.2.1 + (m - v), p.2.2), hs.set s (true, (a : Int), m)) := by
        unfold bRsz; rw [if_pos ⟨g2, g3⟩, hAt_of hx]; simp only [if_true]; rw [pAt_of hp]; rfl
      have Hp := Lib.hid hp
      have Hlx := Lib.hid hlx
      have Hleft := Lib.hid hleft
      simp only [rfw, if_true] at c0 c1
      have hwv : IntKind.i64.wrap (m - v) = m - v := by rw [IntWalk.i64_in _ (by omega)]
      clear g2 g3 g3' hp hlx hlp hleft hx hpl
      obtain ⟨f, hf⟩ : ∃ f, decide (m - v ≤ lx - bUsed ps a) = f := ⟨_, rfl⟩
      have Hf := Lib.hid hf
      clear hf
      cases f with
      | true =>
        have hlt : ¬ p.1 - p.2.1 - p.2.2 + v < m := by have := Hf.out; rw [Hleft.out] at this; simp at this; omega
        rw [if_neg hlt] at hbr
        have Hbr := Lib.hid hbr
        clear hbr hlt
        go_enter Try.func63, Try.ntmps63
        go_upto_region 4 with (first | (go_at_call 61; refine (rIn _ _ _ _).mono ?_; rintro e w' ⟨rfl, rfl⟩; first | rw [I2.out, G2.out] | rw [G3.out]))
        have hOb := Ob.new w 119 [.int .i64 (a : Int), .int .i64 v]
        have hN1 : w.heap.size ≠ br := by have := HH.out.ho.lt; omega
        have hN2 : w.heap.size ≠ gw := by obtain ⟨pad, hq⟩ := HH.out.hw; have := hq.lt; omega
        have hN3 : w.heap.size ≠ gd := by have := HH.out.hd.lt; omega
        refine cutW (fun W => RfAt W B br gd gw cw A n c ls ps hs ∧ Mods (fun k => k = gd ∨ k = gw) w W ∧ Ob W w.heap.size 119 [.int .i64 (a : Int), .int .i64 v]) ⟨HH.out.alloc _, (Mods.refl _ w).alloc _, hOb⟩ ?_
        clear hc c0 c1 hOb
        rintro W ⟨hR, hM, hO⟩
        have HR := Lib.hid hR
        have hoc := hO.cell
        generalize w.heap.size = N at *
        go_upto_region 8 with (go_at_call 77; refine (rFits_in _ B br gd gw cw n c a A ls ps hs _ lx HR.out HI.out Hlx.out true Hf.out).mono ?_; rintro e w' ⟨rfl, j, rfl⟩)
        refine cutW (fun W => RfAt W B br gd gw cw A n c ls ps hs ∧ Mods (fun k => k = gd ∨ k = gw) w W ∧ Ob W N 119 [.int .i64 (a : Int), .int .i64 v]) ⟨HR.out.drewN _, hM.drewN _, hO.drewN _⟩ ?_
        clear hoc HR hR hM hO
        rintro W2 ⟨hR, hM, hO⟩
        have hc := hR.ho.cell
        have hoc := hO.cell
        have hz := hR.wfroz
        obtain ⟨c0, c1⟩ := hR.w2 Hx.out
        simp only [rfw, if_true] at c0 c1
        have HR := Lib.hid hR
        clear hR
        refine wp_region_tail 10 (by kernel_rfl) (by kernel_rfl) ?_
        simp only [List.take_succ_cons, List.take_zero, List.drop_succ_cons, List.drop_zero]
        repeat (go_big_quiet_step (fail))
        refine wpQuiet_nil ?_
        go_wp2_with fail
        go_ret
        rw [Hbr.out]
        refine ⟨rfl, ?_, (hM.drew.setCell (⟨gw, s * 2, none⟩ : Addr) (.inl (.inr rfl)) _).setCell (⟨gw, s * 2 + 1, none⟩ : Addr) (.inl (.inr rfl)) _⟩
        exact ((HR.out.drewN 1).setW1 (y := (true, (a : Int), m)) Hx.out).sameP Hp.out rfl
      | false =>
        have hlt : p.1 - p.2.1 - p.2.2 + v < m := by have := Hf.out; rw [Hleft.out] at this; simp at this; omega
        rw [if_pos hlt] at hbr
        have Hbr := Lib.hid hbr
        clear hbr hlt
        go_enter Try.func63, Try.ntmps63
        go_wp2_with (first | (go_at_call 61; refine (rIn _ _ _ _).mono ?_; rintro e w' ⟨rfl, rfl⟩; first | rw [I2.out, G2.out] | rw [G3.out]) | (go_at_call 77; refine (rFits_in _ B br gd gw cw n c a A ls ps hs _ lx (HH.out.alloc _) HI.out Hlx.out false Hf.out).mono ?_; rintro e w' ⟨rfl, j, rfl⟩))
        go_ret
        rw [Hbr.out]
        exact ⟨rfl, (HH.out.alloc _).drewN j, ((Mods.refl _ w).alloc _).drewN j⟩
    · have hbr : bRsz ps hs s m = (42, ps, hs) := by unfold bRsz; rw [if_pos ⟨g2, g3⟩, hAt_of hx]; simp [hold0]
      have Hbr := Lib.hid hbr
      have e1 : (rfw hold0).1 = -1 := rfl
      rw [e1] at c0
      clear hbr g2 g3 g3' hx e1 hpl
      go_enter Try.func63, Try.ntmps63
      go_wp2_with (first | (go_at_call 61; refine (rIn _ _ _ _).mono ?_; rintro e w' ⟨rfl, rfl⟩; first | rw [I2.out, G2.out] | rw [G3.out]))
      go_ret
      rw [Hbr.out]
      exact ⟨rfl, HH.out.alloc _, (Mods.refl _ w).alloc _⟩
  · have hbr : bRsz ps hs s m = (2, ps, hs) := by unfold bRsz; rw [if_neg hg]
    have Hbr := Lib.hid hbr
    clear hbr hpl
    cases g2 : inB hs.length s with
    | false =>
      have G2 := Lib.hid g2
      clear g2 hg
      go_enter Try.func63, Try.ntmps63
      go_wp2_with (go_at_call 61; refine (rIn _ _ _ _).mono ?_; rintro e w' ⟨rfl, rfl⟩; first | rw [I2.out, G2.out])
      go_ret
      rw [Hbr.out]
      exact ⟨rfl, HH.out, Mods.refl _ w⟩
    | true =>
      have G2 := Lib.hid g2
      have g3 : (decide (0 ≤ m) && decide (m ≤ 4611686018427387904)) = false := by
        cases h3 : inLim m
        · exact h3
        · exact absurd ⟨g2, h3⟩ hg
      have G3 := Lib.hid g3
      clear g2 g3 hg
      go_enter Try.func63, Try.ntmps63
      go_wp2_with (go_at_call 61; refine (rIn _ _ _ _).mono ?_; rintro e w' ⟨rfl, rfl⟩; first | rw [I2.out, G2.out] | rw [G3.out])
      go_ret
      rw [Hbr.out]
      exact ⟨rfl, HH.out, Mods.refl _ w⟩

set_option maxHeartbeats 1600000 in
theorem rSettle_any (s m : Int) (h : RfAt w B br gd gw cw A n c ls ps hs) (hi : BInv ls ps hs) :
    Calls Try.prog 64 #[.pointer (some ⟨br, 0, none⟩), .int .i64 s, .int .i64 m] w fun e w' => RfP w B br gd gw cw n c A ls (bStl ps hs s m) e w' := by
  have hc := h.ho.cell
  have hn9 := h.hn.2
  have hh9 := h.hhs
  have hpl := h.hp
  have i2 := inB_in hs.length s
  have hw2 : IntKind.i64.wrap ((hs.length : Int) - 1) = (hs.length : Int) - 1 := by rw [IntWalk.i64_in _ (by omega)]
  have I2 := Lib.hid i2
  have HH := Lib.hid h
  have HI := Lib.hid hi
  clear i2 h hi
  by_cases hg : inB hs.length s = true ∧ 0 ≤ m
  · obtain ⟨g2, g3⟩ := hg
    obtain ⟨s, rfl, hs'⟩ := inB_toNat g2
    obtain ⟨x, hx⟩ : ∃ x, hs[s]? = some x := ⟨_, List.getElem?_eq_getElem hs'⟩
    obtain ⟨c0, c1⟩ := HH.out.w2 hx
    have G2 := Lib.hid g2
    have Hx := Lib.hid hx
    rcases HI.out.hh s x hx with ⟨x1, a, x2, ha, x3⟩ | rfl
    · obtain ⟨t, q, v⟩ := x
      simp only at x1 x2 x3
      subst x1 x2
      obtain ⟨p, hp⟩ : ∃ p, ps[a]? = some p := ⟨_, List.getElem?_eq_getElem ha⟩
      have hle := HI.out.held_le hx hp
      obtain ⟨o1, o2, o3, o4, o5⟩ := (HI.out.hp a p hp).1
      have hbr : bStl ps hs s m = if v < m then (2, ps, hs) else (0, ps.set a (p.1, p.2.1 - v, p.2.2 + m), hs.set s hold0) := by
        unfold bStl; rw [if_pos ⟨g2, g3⟩, hAt_of hx]; simp only [if_true]; rw [pAt_of hp]; rfl
      have Hp := Lib.hid hp
      simp only [rfw, if_true] at c0 c1
      clear g2 hp hx
      by_cases hlt : v < m
      · rw [if_pos hlt] at hbr
        have Hbr := Lib.hid hbr
        clear hbr hpl
        go_enter Try.func64, Try.ntmps64
        go_wp2_with (first | (go_at_call 61; refine (rIn _ _ _ _).mono ?_; rintro e w' ⟨rfl, rfl⟩; first | rw [I2.out, G2.out]))
        go_ret
        rw [Hbr.out]
        exact ⟨rfl, HH.out.alloc _, (Mods.refl _ w).alloc _⟩
      · rw [if_neg hlt] at hbr
        have Hbr := Lib.hid hbr
        have ha' : a < n := by omega
        clear hbr hpl
        go_enter Try.func64, Try.ntmps64
        go_upto_region 4 with (first | (go_at_call 61; refine (rIn _ _ _ _).mono ?_; rintro e w' ⟨rfl, rfl⟩; first | rw [I2.out, G2.out]))
        have hOb := Ob.new w 119 [.int .i64 (a : Int), .int .i64 v]
        have hN1 : w.heap.size ≠ br := by have := HH.out.ho.lt; omega
        have hN2 : w.heap.size ≠ gw := by obtain ⟨pad, hq⟩ := HH.out.hw; have := hq.lt; omega
        have hN3 : w.heap.size ≠ gd := by have := HH.out.hd.lt; omega
        refine cutW (fun W => RfAt W B br gd gw cw A n c ls ps hs ∧ Mods (fun k => k = gd ∨ k = gw) w W ∧ Ob W w.heap.size 119 [.int .i64 (a : Int), .int .i64 v]) ⟨HH.out.alloc _, (Mods.refl _ w).alloc _, hOb⟩ ?_
        clear hc c0 c1 hOb
        rintro W ⟨hR, hM, hO⟩
        have hc := hR.ho.cell
        have hz := hR.wfroz
        obtain ⟨c0, c1⟩ := hR.w2 Hx.out
        have HR := Lib.hid hR
        have hoc := hO.cell
        have HO := Lib.hid hO
        clear hR hO
        generalize w.heap.size = N at *
        go_upto_region 9 with (fail)
        refine cutW (fun W => RfAt W B br gd gw cw A n c ls ps (hs.set s hold0) ∧ Mods (fun k => k = gd ∨ k = gw) w W ∧ Ob W N 119 [.int .i64 (a : Int), .int .i64 v]) ⟨HR.out.setW1 (y := hold0) Hx.out, (hM.setCell (⟨gw, s * 2, none⟩ : Addr) (.inl (.inr rfl)) _).setCell (⟨gw, s * 2 + 1, none⟩ : Addr) (.inl (.inr rfl)) _, (HO.out.mods ((Mods.refl (fun k => k = gw) W).setCell (⟨gw, s * 2, none⟩ : Addr) (.inl rfl) _) hN2).mods ((Mods.refl (fun k => k = gw) _).setCell (⟨gw, s * 2 + 1, none⟩ : Addr) (.inl rfl) _) hN2⟩ ?_
        clear hc c0 c1 hoc HO HR hM hz
        rintro W2 ⟨hR, hM, hO⟩
        have hc := hR.ho.cell
        have hoc := hO.cell
        have hz := hR.hd.frozen
        have hdc := hR.d1 Hp.out
        have HR := Lib.hid hR
        clear hR hO
        have hw3 : IntKind.i64.wrap (p.2.2 + m) = p.2.2 + m := by rw [IntWalk.i64_in _ (by omega)]
        refine wp_region_tail 11 (by kernel_rfl) (by kernel_rfl) ?_
        simp only [List.take_succ_cons, List.take_zero, List.drop_succ_cons, List.drop_zero]
        repeat (go_big_quiet_step (fail))
        refine wpQuiet_nil ?_
        go_wp2_with fail
        go_ret
        rw [Hbr.out]
        exact ⟨rfl, (HR.out.drewN 1).setD (p' := (p.1, p.2.1 - v, p.2.2 + m)) Hp.out, hM.drew.setCell (⟨gd, a, none⟩ : Addr) (.inl (.inl rfl)) _⟩
    · have hbr : bStl ps hs s m = (42, ps, hs) := by unfold bStl; rw [if_pos ⟨g2, g3⟩, hAt_of hx]; simp [hold0]
      have Hbr := Lib.hid hbr
      have e1 : (rfw hold0).1 = -1 := rfl
      rw [e1] at c0
      clear hbr g2 hx e1 hpl
      go_enter Try.func64, Try.ntmps64
      go_wp2_with (first | (go_at_call 61; refine (rIn _ _ _ _).mono ?_; rintro e w' ⟨rfl, rfl⟩; first | rw [I2.out, G2.out]))
      go_ret
      rw [Hbr.out]
      exact ⟨rfl, HH.out.alloc _, (Mods.refl _ w).alloc _⟩
  · have hbr : bStl ps hs s m = (2, ps, hs) := by unfold bStl; rw [if_neg hg]
    have Hbr := Lib.hid hbr
    clear hbr hpl
    cases g2 : inB hs.length s with
    | false =>
      have G2 := Lib.hid g2
      clear g2 hg
      go_enter Try.func64, Try.ntmps64
      go_wp2_with (go_at_call 61; refine (rIn _ _ _ _).mono ?_; rintro e w' ⟨rfl, rfl⟩; first | rw [I2.out, G2.out])
      go_ret
      rw [Hbr.out]
      exact ⟨rfl, HH.out, Mods.refl _ w⟩
    | true =>
      have G2 := Lib.hid g2
      have g3 : m < 0 := by
        apply Classical.byContradiction
        intro hc
        exact hg ⟨g2, by omega⟩
      clear g2 hg
      go_enter Try.func64, Try.ntmps64
      go_wp2_with (go_at_call 61; refine (rIn _ _ _ _).mono ?_; rintro e w' ⟨rfl, rfl⟩; first | rw [I2.out, G2.out])
      go_ret
      rw [Hbr.out]
      exact ⟨rfl, HH.out, Mods.refl _ w⟩

set_option maxHeartbeats 1600000 in
theorem rUndo_any (a m : Int) (h : RfAt w B br gd gw cw A n c ls ps hs) (hi : BInv ls ps hs) :
    Calls Try.prog 65 #[.pointer (some ⟨br, 0, none⟩), .int .i64 a, .int .i64 m] w fun e w' => RfP w B br gd gw cw n c A ls (bUnd ps hs a m) e w' := by
  have hc := h.ho.cell
  have hn9 := h.hn.2
  have hpl := h.hp
  have i1 := inB_in n a
  have hw1 : IntKind.i64.wrap ((n : Int) - 1) = (n : Int) - 1 := by rw [IntWalk.i64_in _ (by omega)]
  have I1 := Lib.hid i1
  have HH := Lib.hid h
  have HI := Lib.hid hi
  clear i1 h hi
  cases g1 : inB ps.length a with
  | false =>
    have hbr : bUnd ps hs a m = (2, ps, hs) := by unfold bUnd; rw [if_neg (by rw [g1]; simp)]
    rw [hpl] at g1
    have G1 := Lib.hid g1
    have Hbr := Lib.hid hbr
    clear g1 hbr hpl
    go_enter Try.func65, Try.ntmps65
    go_wp2_with (go_at_call 61; refine (rIn _ _ _ _).mono ?_; rintro e w' ⟨rfl, rfl⟩; rw [I1.out, G1.out])
    go_ret
    rw [Hbr.out]
    exact ⟨rfl, HH.out, Mods.refl _ w⟩
  | true =>
    obtain ⟨a, rfl, ha⟩ := inB_toNat g1
    obtain ⟨p, hp⟩ : ∃ p, ps[a]? = some p := ⟨_, List.getElem?_eq_getElem ha⟩
    obtain ⟨o1, o2, o3, o4, o5⟩ := (HI.out.hp a p hp).1
    have hbr : bUnd ps hs a m = if 0 ≤ m ∧ m ≤ p.2.2 then (0, ps.set a (p.1, p.2.1, p.2.2 - m), hs) else (2, ps, hs) := by
      unfold bUnd; rw [pAt_of hp]
      by_cases hh : 0 ≤ m ∧ m ≤ p.2.2
      · rw [if_pos ⟨g1, hh⟩, if_pos hh]; rfl
      · rw [if_neg (fun h => hh h.2), if_neg hh]
    have hd := HH.out.d1 hp
    have Hp := Lib.hid hp
    rw [hpl] at g1
    have G1 := Lib.hid g1
    have ha' : a < n := by omega
    clear g1 hp hpl
    by_cases hh : 0 ≤ m ∧ m ≤ p.2.2
    · rw [if_pos hh] at hbr
      have g3 : (decide (0 ≤ m) && decide (m ≤ p.2.2)) = true := by simpa using hh
      have G3 := Lib.hid g3
      have Hbr := Lib.hid hbr
      have hz := HH.out.hd.frozen
      obtain ⟨m0, m1⟩ := hh
      have hw3 : IntKind.i64.wrap (p.2.2 - m) = p.2.2 - m := by rw [IntWalk.i64_in _ (by omega)]
      clear hbr g3
      go_enter Try.func65, Try.ntmps65
      go_wp2_with (go_at_call 61; refine (rIn _ _ _ _).mono ?_; rintro e w' ⟨rfl, rfl⟩; first | rw [I1.out, G1.out] | rw [G3.out])
      go_ret
      rw [Hbr.out]
      exact ⟨rfl, HH.out.setD (p' := (p.1, p.2.1, p.2.2 - m)) Hp.out, (Mods.refl _ w).setCell (⟨gd, a, none⟩ : Addr) (.inl (.inl rfl)) _⟩
    · rw [if_neg hh] at hbr
      have g3 : (decide (0 ≤ m) && decide (m ≤ p.2.2)) = false := by simp; omega
      have G3 := Lib.hid g3
      have Hbr := Lib.hid hbr
      clear hbr g3 hh
      go_enter Try.func65, Try.ntmps65
      go_wp2_with (go_at_call 61; refine (rIn _ _ _ _).mono ?_; rintro e w' ⟨rfl, rfl⟩; first | rw [I1.out, G1.out] | rw [G3.out])
      go_ret
      rw [Hbr.out]
      exact ⟨rfl, HH.out, Mods.refl _ w⟩
end

end Go.Proofs.Yteggpdhkpmkldaa
