import Derived.Test.YtjhlaifflhjafaaXd
namespace Go.Proofs.Ytjhlaifflhjafaa
open Go.RowKit

set_option maxHeartbeats 400000 in
theorem cOpen_any (w : World) (b : Nat) (s : Int) (r : Bool) (h : w.cell? ⟨b, 3, none⟩ = some (.int .i64 s)) (h1 : 1 ≤ s) (hr : decide (1 ≤ s ∧ s ≤ 5) = r) : Calls Try.prog 22 #[.pointer (some ⟨b, 0, none⟩)] w fun e w' => e = .returned (.bool r) ∧ w = w' := by
  have hp : decide (0 < s) = true := by simp; omega
  have Hp := Lib.hid hp
  have Hr := Lib.hid hr
  clear hp hr
  go_enter Try.func22, Try.ntmps22
  go_wp2_with (first
    | (go_at_call 64; refine (cIs_any _ b s true h Hp.out).mono ?_; rintro e w' ⟨rfl, rfl⟩)
    | (go_at_call 66; refine (open_b s _ r Hr.out).mono ?_; rintro e w' ⟨rfl, rfl⟩))
  go_ret
  exact ⟨rfl, rfl⟩

set_option maxHeartbeats 400000 in
theorem cClaim_any (w : World) (b : Nat) (c : Ch) (h : CAt w b c) (hi : CInv c) : Calls Try.prog 23 #[.pointer (some ⟨b, 0, none⟩)] w fun e w' => e = .returned (.int .i64 (clm c)) ∧ Below w.heap.size w w' := by
  have hc := h.cell
  have hp : decide (0 < c.st) = true := by have := hi.st1; simp; omega
  have Hp := Lib.hid hp
  have HI := Lib.hid hi
  clear hp hi h
  go_enter Try.func23, Try.ntmps23
  go_wp2_with (first
    | (go_at_call 64; refine (cIs_any _ b c.st true (hc 3) Hp.out).mono ?_; rintro e w' ⟨rfl, rfl⟩)
    | (go_at_call 65; refine (cClaim65 _ c HI.out).mono ?_; rintro e w' ⟨rfl, hb⟩))
  go_ret
  exact ⟨rfl, hb⟩

set_option maxHeartbeats 400000 in
theorem cCover_any (w : World) (b : Nat) (c : Ch) (h : CAt w b c) (h1 : 1 ≤ c.st) : Calls Try.prog 24 #[.pointer (some ⟨b, 0, none⟩)] w fun e w' => (∃ n : Int, e = .returned (.int .i64 n)) ∧ ∃ k, w' = w.drewN k := by
  have hc := h.cell
  have hp : decide (0 < c.st) = true := by simp; omega
  have Hp := Lib.hid hp
  clear hp h
  by_cases hq : c.p < c.np
  · go_enter Try.func24, Try.ntmps24
    go_wp2_with (first
      | (go_at_call 64; refine (cIs_any _ b c.st true (hc 3) Hp.out).mono ?_; rintro e w' ⟨rfl, rfl⟩))
    go_quiet (fail)
    go_wp2_with fail
    go_ret
    exact ⟨⟨_, rfl⟩, _, rfl⟩
  · have hq' : c.np ≤ c.p := by omega
    clear hq
    go_enter Try.func24, Try.ntmps24
    go_wp2_with (first
      | (go_at_call 64; refine (cIs_any _ b c.st true (hc 3) Hp.out).mono ?_; rintro e w' ⟨rfl, rfl⟩))
    go_quiet (fail)
    go_wp2_with fail
    go_ret
    exact ⟨⟨_, rfl⟩, _, rfl⟩

set_option maxHeartbeats 1600000 in
theorem cTrade_any (w : World) (b : Nat) (c : Ch) (h : CAt w b c) (hi : CInv c) (qty : Int) : Calls Try.prog 54 #[.pointer (some ⟨b, 0, none⟩), .int .i64 qty] w fun en w' => ChP w b (cTrade c qty) en w' := by
  have hc := h.cell
  have h1 := hi.st1
  have hp : decide (0 < c.st) = true := by simp; omega
  have Hp := Lib.hid hp
  have HC := Lib.hid h
  have HI := Lib.hid hi
  have hdef : cTrade c qty = if qty < 1 then (2, c) else if ¬ (1 ≤ c.st ∧ c.st ≤ 5) then (200, c) else if clm c < qty then (3, c) else cEv { c with cum := c.cum + qty } (if qty = clm c then 6 else 5) (c.cum + qty) := rfl
  obtain ⟨l1, l2, l3⟩ := clm_bd hi
  have m0 := hi.cum0
  clear hp h hi
  by_cases k1 : qty < 1
  · have Hd := Lib.hid (hdef.trans (if_pos k1))
    clear hdef
    go_enter Try.func54, Try.ntmps54
    go_wp2_with (go_at_call 64; refine (cIs_any _ b _ true (hc 3) Hp.out).mono ?_; rintro e w' ⟨rfl, rfl⟩)
    go_ret
    rw [Hd.out]
    exact ⟨rfl, HC.out, Mods.refl _ w⟩
  have hd1 := hdef.trans (if_neg k1)
  clear hdef
  have k1' : 1 ≤ qty := by omega
  clear k1
  by_cases k2 : 1 ≤ c.st ∧ c.st ≤ 5
  · have hd2 := hd1.trans (if_neg (fun hn => hn k2))
    have ho : decide (1 ≤ c.st ∧ c.st ≤ 5) = true := by simpa using k2
    have Ho := Lib.hid ho
    clear hd1 k2 ho
    by_cases k3 : clm c < qty
    · have Hd := Lib.hid (hd2.trans (if_pos k3))
      clear hd2
      go_enter Try.func54, Try.ntmps54
      go_wp2_with (first
        | (go_at_call 64; refine (cIs_any _ b _ true (hc 3) Hp.out).mono ?_; rintro e w' ⟨rfl, rfl⟩)
        | (go_at_call 22; refine (cOpen_any _ b _ true (hc 3) h1 Ho.out).mono ?_; rintro e w' ⟨rfl, rfl⟩)
        | (go_at_call 65; refine (cClaim65 _ c HI.out).mono ?_; rintro e w1 ⟨rfl, hb⟩))
      go_ret
      rw [Hd.out]
      exact ⟨rfl, HC.out.below hb, Below.mods_ hb _⟩
    · have hd3 := hd2.trans (if_neg k3)
      have k3' : qty ≤ clm c := by omega
      have hw : IntKind.i64.wrap (c.cum + qty) = c.cum + qty := by rw [IntWalk.i64_in _ (by omega)]
      clear hd2 k3
      have hcl := fun W => cClaim65 W c HI.out
      generalize clm c = L at *
      have Hcl := Lib.hid hcl
      clear hcl
      by_cases k4 : qty = L
      · have hd4 : cTrade c qty = cEv { c with cum := c.cum + qty } 6 (c.cum + qty) := by rw [hd3, if_pos k4]
        subst k4
        have Hd := Lib.hid hd4
        have hev := fun (W : World) (hW : CAt W b { c with cum := c.cum + qty }) => cEvent W b { c with cum := c.cum + qty } hW h1 6 (c.cum + qty)
        have Hev := Lib.hid hev
        clear hd3 hd4 hev
        go_enter Try.func54, Try.ntmps54
        go_upto_region 9 with (first
          | (go_at_call 64; refine (cIs_any _ b _ true (hc 3) Hp.out).mono ?_; rintro e w' ⟨rfl, rfl⟩)
          | (go_at_call 22; refine (cOpen_any _ b _ true (hc 3) h1 Ho.out).mono ?_; rintro e w' ⟨rfl, rfl⟩)
          | (go_at_call 65; refine (Hcl.out _).mono ?_; rintro e w1 ⟨rfl, hb⟩))
        refine cutW (fun W => CAt W b c ∧ Mods (fun k => k = b) w W) ⟨HC.out.below hb, Below.mods_ hb _⟩ ?_
        clear hc hb w1
        rintro W ⟨hC, hM⟩
        have hc := hC.cell
        have HC2 := Lib.hid hC
        clear hC
        go_upto_region 12 with (go_at_call 65; refine (Hcl.out _).mono ?_; rintro e w1 ⟨rfl, hb⟩)
        refine cutW (fun W => CAt W b c ∧ Mods (fun k => k = b) w W) ⟨HC2.out.below hb, hM.trans (Below.mods_ hb _)⟩ ?_
        clear hc hb hM HC2 w1 W
        rintro W ⟨hC, hM⟩
        have hc := hC.cell
        have hz := Ob.frozen hC
        have HC2 := Lib.hid hC
        clear hC
        go_wp2_with (go_at_call 82; refine (Hev.out _ (Ob.set HC2.out 8 (.int .i64 (c.cum + qty)))).mono ?_; rintro en w2 ⟨rfl, hq1, hq2⟩)
        go_ret
        rw [Hd.out]
        exact ⟨rfl, hq1, (hM.setCell (⟨b, 8, none⟩ : Addr) (.inl rfl) _).trans hq2⟩
      · have hd4 : cTrade c qty = cEv { c with cum := c.cum + qty } 5 (c.cum + qty) := by rw [hd3, if_neg k4]
        have k4b : (qty == L) = false := by simpa using k4
        clear k4
        have Hd := Lib.hid hd4
        have hev := fun (W : World) (hW : CAt W b { c with cum := c.cum + qty }) => cEvent W b { c with cum := c.cum + qty } hW h1 5 (c.cum + qty)
        have Hev := Lib.hid hev
        clear hd3 hd4 hev
        go_enter Try.func54, Try.ntmps54
        go_upto_region 9 with (first
          | (go_at_call 64; refine (cIs_any _ b _ true (hc 3) Hp.out).mono ?_; rintro e w' ⟨rfl, rfl⟩)
          | (go_at_call 22; refine (cOpen_any _ b _ true (hc 3) h1 Ho.out).mono ?_; rintro e w' ⟨rfl, rfl⟩)
          | (go_at_call 65; refine (Hcl.out _).mono ?_; rintro e w1 ⟨rfl, hb⟩))
        refine cutW (fun W => CAt W b c ∧ Mods (fun k => k = b) w W) ⟨HC.out.below hb, Below.mods_ hb _⟩ ?_
        clear hc hb w1
        rintro W ⟨hC, hM⟩
        have hc := hC.cell
        have HC2 := Lib.hid hC
        clear hC
        go_upto_region 12 with (go_at_call 65; refine (Hcl.out _).mono ?_; rintro e w1 ⟨rfl, hb⟩)
        refine cutW (fun W => CAt W b c ∧ Mods (fun k => k = b) w W) ⟨HC2.out.below hb, hM.trans (Below.mods_ hb _)⟩ ?_
        clear hc hb hM HC2 w1 W
        rintro W ⟨hC, hM⟩
        have hc := hC.cell
        have hz := Ob.frozen hC
        have HC2 := Lib.hid hC
        clear hC
        go_wp2_with (go_at_call 82; refine (Hev.out _ (Ob.set HC2.out 8 (.int .i64 (c.cum + qty)))).mono ?_; rintro en w2 ⟨rfl, hq1, hq2⟩)
        go_ret
        rw [Hd.out]
        exact ⟨rfl, hq1, (hM.setCell (⟨b, 8, none⟩ : Addr) (.inl rfl) _).trans hq2⟩
  · have Hd := Lib.hid (hd1.trans (if_pos k2))
    have ho : decide (1 ≤ c.st ∧ c.st ≤ 5) = false := by simpa using k2
    have Ho := Lib.hid ho
    clear hd1 k2 ho
    go_enter Try.func54, Try.ntmps54
    go_wp2_with (first
      | (go_at_call 64; refine (cIs_any _ b _ true (hc 3) Hp.out).mono ?_; rintro e w' ⟨rfl, rfl⟩)
      | (go_at_call 22; refine (cOpen_any _ b _ false (hc 3) h1 Ho.out).mono ?_; rintro e w' ⟨rfl, rfl⟩))
    go_ret
    rw [Hd.out]
    exact ⟨rfl, HC.out, Mods.refl _ w⟩

set_option maxHeartbeats 1600000 in
theorem cBust_any (w : World) (b : Nat) (c : Ch) (h : CAt w b c) (hi : CInv c) (qty : Int) : Calls Try.prog 62 #[.pointer (some ⟨b, 0, none⟩), .int .i64 qty] w fun en w' => ChP w b (cBust c qty) en w' := by
  have hc := h.cell
  have h1 := hi.st1
  have hp : decide (0 < c.st) = true := by simp; omega
  have Hp := Lib.hid hp
  have HC := Lib.hid h
  have hdef : cBust c qty = if qty < 1 ∨ c.cum < qty then (2, c) else if (cEv c 7 (c.cum - qty)).1 = 0 then (0, bust1 (cEv c 7 (c.cum - qty)).2 qty) else cEv c 7 (c.cum - qty) := rfl
  have m0 := hi.cum0
  have m1 := hi.cum9
  have m2 := hi.q9
  have m3 := hi.qc
  obtain ⟨m4, m5⟩ := hi.nqb
  clear hp hi
  by_cases k1 : qty < 1
  · have Hd := Lib.hid (hdef.trans (if_pos (.inl k1)))
    clear hdef h
    go_enter Try.func62, Try.ntmps62
    go_wp2_with (go_at_call 64; refine (cIs_any _ b _ true (hc 3) Hp.out).mono ?_; rintro e w' ⟨rfl, rfl⟩)
    go_ret
    rw [Hd.out]
    exact ⟨rfl, HC.out, Mods.refl _ w⟩
  by_cases k2 : c.cum < qty
  · have Hd := Lib.hid (hdef.trans (if_pos (.inr k2)))
    clear hdef h
    go_enter Try.func62, Try.ntmps62
    go_wp2_with (go_at_call 64; refine (cIs_any _ b _ true (hc 3) Hp.out).mono ?_; rintro e w' ⟨rfl, rfl⟩)
    go_ret
    rw [Hd.out]
    exact ⟨rfl, HC.out, Mods.refl _ w⟩
  have hd1 := hdef.trans (if_neg (by omega))
  have k1' : 1 ≤ qty := by omega
  have k2' : qty ≤ c.cum := by omega
  have hw1 : IntKind.i64.wrap (c.cum - qty) = c.cum - qty := by rw [IntWalk.i64_in _ (by omega)]
  have hw2 : IntKind.i64.wrap (c.q - qty) = c.q - qty := by rw [IntWalk.i64_in _ (by omega)]
  have hcon := cEvent w b c h h1 7 (c.cum - qty)
  obtain ⟨f1, f2, f3, f4, f5, f6, f7⟩ := cEv_fix c 7 (c.cum - qty)
  clear hdef h k1 k2
  generalize cEv c 7 (c.cum - qty) = r at *
  obtain ⟨e, d⟩ := r
  simp only at *
  have Hcon := Lib.hid hcon
  have f8 : -2199023255552 ≤ d.nq ∧ d.nq ≤ 1099511627776 := by omega
  obtain ⟨f9, f10⟩ := f8
  clear hcon f7
  by_cases he : e = 0
  · subst he
    have hd2 := hd1.trans (if_pos rfl)
    clear hd1
    by_cases k5 : d.st = 5
    · have hd3 : bust1 d qty = { d with cum := d.cum - qty, q := d.q - qty, nq := d.nq - qty } := if_pos k5
      have Hd := Lib.hid (hd2.trans (by rw [hd3]))
      have Hf4 := Lib.hid f4
      have Hf6 := Lib.hid f6
      have hw3 : IntKind.i64.wrap (d.nq - qty) = d.nq - qty := by rw [IntWalk.i64_in _ (by omega)]
      have hw4 : IntKind.i64.wrap (d.q - qty) = d.q - qty := by rw [IntWalk.i64_in _ (by omega)]
      have hw5 : IntKind.i64.wrap (d.cum - qty) = d.cum - qty := by rw [IntWalk.i64_in _ (by omega)]
      have k5b : (d.st == 5) = true := by simpa using k5
      clear hd2 hd3 f1 f2 f3 f4 f5 f6 k5
      go_enter Try.func62, Try.ntmps62
      go_wp2_with (first
        | (go_at_call 64; refine (cIs_any _ b _ true (hc 3) Hp.out).mono ?_; rintro e w' ⟨rfl, rfl⟩)
        | (go_at_call 82; refine Hcon.out.mono ?_; rintro en w1 ⟨rfl, hq1, hq2⟩; have hc1 := hq1.cell; have hz1 := Ob.frozen hq1; have HQ := Lib.hid hq1; clear hq1))
      go_ret
      rw [Hd.out]
      exact ⟨rfl, ((Ob.set HQ.out 8 (.int .i64 (d.cum - qty))).set 4 (.int .i64 (d.q - qty))).set 6 (.int .i64 (d.nq - qty)), ((hq2.setCell (⟨b, 8, none⟩ : Addr) (.inl rfl) _).setCell (⟨b, 4, none⟩ : Addr) (.inl rfl) _).setCell (⟨b, 6, none⟩ : Addr) (.inl rfl) _⟩
    · have hd3 : bust1 d qty = { d with cum := d.cum - qty, q := d.q - qty } := if_neg k5
      have Hd := Lib.hid (hd2.trans (by rw [hd3]))
      have hw4 : IntKind.i64.wrap (d.q - qty) = d.q - qty := by rw [IntWalk.i64_in _ (by omega)]
      have hw5 : IntKind.i64.wrap (d.cum - qty) = d.cum - qty := by rw [IntWalk.i64_in _ (by omega)]
      have k5b : (d.st == 5) = false := by simpa using k5
      clear hd2 hd3 f1 f2 f3 f4 f5 f6 k5
      go_enter Try.func62, Try.ntmps62
      go_wp2_with (first
        | (go_at_call 64; refine (cIs_any _ b _ true (hc 3) Hp.out).mono ?_; rintro e w' ⟨rfl, rfl⟩)
        | (go_at_call 82; refine Hcon.out.mono ?_; rintro en w1 ⟨rfl, hq1, hq2⟩; have hc1 := hq1.cell; have hz1 := Ob.frozen hq1; have HQ := Lib.hid hq1; clear hq1))
      go_ret
      rw [Hd.out]
      exact ⟨rfl, (Ob.set HQ.out 8 (.int .i64 (d.cum - qty))).set 4 (.int .i64 (d.q - qty)), (hq2.setCell (⟨b, 8, none⟩ : Addr) (.inl rfl) _).setCell (⟨b, 4, none⟩ : Addr) (.inl rfl) _⟩
  · have Hd := Lib.hid (hd1.trans (if_neg he))
    have heb : (e != 0) = true := by simpa using he
    clear hd1 f1 f2 f3 f4 f5 f6 he
    go_enter Try.func62, Try.ntmps62
    go_wp2_with (first
      | (go_at_call 64; refine (cIs_any _ b _ true (hc 3) Hp.out).mono ?_; rintro e w' ⟨rfl, rfl⟩)
      | (go_at_call 82; refine Hcon.out.mono ?_; rintro en w1 ⟨rfl, hq1, hq2⟩))
    go_ret
    rw [Hd.out]
    exact ⟨rfl, hq1, hq2⟩

end Go.Proofs.Ytjhlaifflhjafaa
