import Derived.Test.YtjhlaifflhjafaaXc
import Derived.BigRegion
import Derived.RegionTactic
import Derived.ChangeAlike
namespace Go.Proofs.Ytjhlaifflhjafaa
open Go.RowKit

theorem cEv_fix (c : Ch) (e x : Int) : (cEv c e x).2.id = c.id ∧ (cEv c e x).2.ve = c.ve ∧ (cEv c e x).2.sd = c.sd ∧ (cEv c e x).2.q = c.q ∧ (cEv c e x).2.p = c.p ∧ (cEv c e x).2.cum = c.cum ∧ ((cEv c e x).2.nq = c.nq ∨ (cEv c e x).2.nq = 0) := by
  unfold cEv cDone
  split
  · split <;> simp
  · simp
theorem CInv.nqb {c : Ch} (h : CInv c) : -2199023255552 ≤ c.nq ∧ c.nq ≤ 1099511627776 := by
  by_cases h5 : c.st = 5
  · have := h.n5 h5; have := h.cum0; omega
  · have := h.n0 h5; omega

def cReplace (c : Ch) (qty price : Int) : Int × Ch :=
  if qty ≤ c.cum ∨ 1099511627776 < qty ∨ price < 1 ∨ 1099511627776 < price then (2, c)
  else if (cNow c 10).1 = 0 then (0, { (cNow c 10).2 with nq := qty, np := price }) else cNow c 10
def cReplaced (c : Ch) : Int × Ch :=
  if (cNow c 3).1 = 0 then (0, cSettle { (cNow c 3).2 with q := (cNow c 3).2.nq, p := (cNow c 3).2.np, nq := 0, np := 0 }) else cNow c 3
def cRefused (c : Ch) : Int × Ch :=
  if (cNow c 8).1 = 0 then (0, cSettle { (cNow c 8).2 with nq := 0, np := 0 }) else cNow c 8
def cTrade (c : Ch) (qty : Int) : Int × Ch :=
  if qty < 1 then (2, c) else if ¬ (1 ≤ c.st ∧ c.st ≤ 5) then (200, c) else if clm c < qty then (3, c)
  else cEv { c with cum := c.cum + qty } (if qty = clm c then 6 else 5) (c.cum + qty)
def bust1 (c : Ch) (qty : Int) : Ch := if c.st = 5 then { c with cum := c.cum - qty, q := c.q - qty, nq := c.nq - qty } else { c with cum := c.cum - qty, q := c.q - qty }
def cBust (c : Ch) (qty : Int) : Int × Ch :=
  if qty < 1 ∨ c.cum < qty then (2, c) else if (cEv c 7 (c.cum - qty)).1 = 0 then (0, bust1 (cEv c 7 (c.cum - qty)).2 qty) else cEv c 7 (c.cum - qty)

theorem CAt.cell {w : World} {b : Nat} {c : Ch} (h : CAt w b c) : ∀ i, w.cell? ⟨b, i, none⟩ = [Value.string c.id, .string c.ve, .int .i64 c.sd, .int .i64 c.st, .int .i64 c.q, .int .i64 c.p, .int .i64 c.nq, .int .i64 c.np, .int .i64 c.cum, .int .i64 0][i]? := Ob.cell h

set_option maxHeartbeats 800000 in
theorem cRefused_any (w : World) (b : Nat) (c : Ch) (h : CAt w b c) (h1 : 1 ≤ c.st) : Calls Try.prog 57 #[.pointer (some ⟨b, 0, none⟩)] w fun en w' => ChP w b (cRefused c) en w' := by
  have hcon := cNow_any w b c h h1 8
  have hdef : cRefused c = if (cNow c 8).1 = 0 then (0, cSettle { (cNow c 8).2 with nq := 0, np := 0 }) else cNow c 8 := rfl
  generalize cNow c 8 = r at *
  obtain ⟨e, d⟩ := r
  have Hcon := Lib.hid hcon
  clear h h1 hcon
  by_cases he : e = 0
  · subst he
    have Hd := Lib.hid (hdef.trans (if_pos rfl))
    clear hdef
    go_enter Try.func57, Try.ntmps57
    go_wp2_with (first
      | (go_at_call 83; refine Hcon.out.mono ?_; rintro en w1 ⟨rfl, hq1, hq2⟩; have hc1 := hq1.cell; have hz1 := Ob.frozen hq1; have HQ := Lib.hid hq1; clear hq1)
      | (go_at_call 84; refine (cSettle_any _ b { d with nq := 0, np := 0 } ((Ob.set HQ.out 6 (.int .i64 0)).set 7 (.int .i64 0))).mono ?_; rintro en w2 ⟨⟨v, rfl⟩, hs1, hs2⟩))
    go_ret
    rw [Hd.out]
    exact ⟨rfl, hs1, ((hq2.setCell (⟨b, 6, none⟩ : Addr) (.inl rfl) _).setCell (⟨b, 7, none⟩ : Addr) (.inl rfl) _).trans hs2⟩
  · have Hd := Lib.hid (hdef.trans (if_neg he))
    have heb : (e == 0) = false := by simpa using he
    clear hdef he
    go_enter Try.func57, Try.ntmps57
    go_wp2_with (go_at_call 83; refine Hcon.out.mono ?_; rintro en w1 ⟨rfl, hq1, hq2⟩)
    go_ret
    rw [Hd.out]
    exact ⟨rfl, hq1, hq2⟩

set_option maxHeartbeats 1600000 in
set_option maxRecDepth 100000 in
theorem cReplaced_any (w : World) (b : Nat) (c : Ch) (h : CAt w b c) (h1 : 1 ≤ c.st) : Calls Try.prog 60 #[.pointer (some ⟨b, 0, none⟩)] w fun en w' => ChP w b (cReplaced c) en w' := by
  have hcon := cNow_any w b c h h1 3
  have hdef : cReplaced c = if (cNow c 3).1 = 0 then (0, cSettle { (cNow c 3).2 with q := (cNow c 3).2.nq, p := (cNow c 3).2.np, nq := 0, np := 0 }) else cNow c 3 := rfl
  generalize cNow c 3 = r at *
  obtain ⟨e, d⟩ := r
  have Hcon := Lib.hid hcon
  clear h h1 hcon
  by_cases he : e = 0
  · subst he
    have Hd := Lib.hid (hdef.trans (if_pos rfl))
    clear hdef
    go_enter Try.func60, Try.ntmps60
    go_wp2_with (first
      | (go_at_call 83; refine Hcon.out.mono ?_; rintro en w1 ⟨rfl, hq1, hq2⟩; have hc1 := hq1.cell; have hz1 := Ob.frozen hq1; have HQ := Lib.hid hq1; clear hq1))
    refine cutW (fun W => CAt W b d ∧ Mods (fun k => k = b) w W) ⟨HQ.out, hq2⟩ ?_
    clear hc1 hz1 HQ hq2 w1
    rintro w1 ⟨hq1, hq2⟩
    have hc1 := hq1.cell
    have hz1 := Ob.frozen hq1
    have hc6 := hc1 6
    have hc7 := hc1 7
    have HQ := Lib.hid hq1
    clear hq1
    go_region
    go_wp2_with (go_at_call 84; refine (cSettle_any _ b { d with q := d.nq, p := d.np, nq := 0, np := 0 } (Ob.drew ((((Ob.set HQ.out 4 (.int .i64 d.nq)).set 5 (.int .i64 d.np)).set 6 (.int .i64 0)).set 7 (.int .i64 0)))).mono ?_; rintro en w2 ⟨⟨v, rfl⟩, hs1, hs2⟩)
    go_ret
    rw [Hd.out]
    exact ⟨rfl, hs1, ((((hq2.setCell (⟨b, 4, none⟩ : Addr) (.inl rfl) _).setCell (⟨b, 5, none⟩ : Addr) (.inl rfl) _).setCell (⟨b, 6, none⟩ : Addr) (.inl rfl) _).setCell (⟨b, 7, none⟩ : Addr) (.inl rfl) _).drew.trans hs2⟩
  · have Hd := Lib.hid (hdef.trans (if_neg he))
    have heb : (e == 0) = false := by simpa using he
    clear hdef he
    go_enter Try.func60, Try.ntmps60
    go_wp2_with (go_at_call 83; refine Hcon.out.mono ?_; rintro en w1 ⟨rfl, hq1, hq2⟩)
    go_ret
    rw [Hd.out]
    exact ⟨rfl, hq1, hq2⟩

set_option maxHeartbeats 1600000 in
theorem cReplace_any (w : World) (b : Nat) (c : Ch) (h : CAt w b c) (h1 : 1 ≤ c.st) (qty price : Int) : Calls Try.prog 56 #[.pointer (some ⟨b, 0, none⟩), .int .i64 qty, .int .i64 price] w fun en w' => ChP w b (cReplace c qty price) en w' := by
  have hp : decide (0 < c.st) = true := by simp; omega
  have Hp := Lib.hid hp
  have hc := h.cell
  have hcon := cNow_any w b c h h1 10
  have hdef : cReplace c qty price = if qty ≤ c.cum ∨ 1099511627776 < qty ∨ price < 1 ∨ 1099511627776 < price then (2, c) else if (cNow c 10).1 = 0 then (0, { (cNow c 10).2 with nq := qty, np := price }) else cNow c 10 := rfl
  generalize cNow c 10 = r at *
  obtain ⟨e, d⟩ := r
  have Hcon := Lib.hid hcon
  have HC := Lib.hid h
  clear h h1 hcon hp
  by_cases k1 : qty ≤ c.cum
  · have Hd := Lib.hid (hdef.trans (if_pos (.inl k1)))
    have kb : decide (qty ≤ c.cum) = true := by simpa using k1
    clear hdef
    go_enter Try.func56, Try.ntmps56
    go_wp2_with (go_at_call 64; refine (cIs_any _ b _ true (hc 3) Hp.out).mono ?_; rintro e w' ⟨rfl, rfl⟩)
    go_ret
    rw [Hd.out]
    exact ⟨rfl, HC.out, Mods.refl _ w⟩
  have kb1 : decide (qty ≤ c.cum) = false := by simpa using k1
  by_cases k2 : 1099511627776 < qty
  · have Hd := Lib.hid (hdef.trans (if_pos (.inr (.inl k2))))
    clear hdef k1
    go_enter Try.func56, Try.ntmps56
    go_wp2_with (go_at_call 64; refine (cIs_any _ b _ true (hc 3) Hp.out).mono ?_; rintro e w' ⟨rfl, rfl⟩)
    go_ret
    rw [Hd.out]
    exact ⟨rfl, HC.out, Mods.refl _ w⟩
  obtain ⟨f, hf⟩ : ∃ f, (decide (1 ≤ price) && decide (price ≤ 1099511627776)) = f := ⟨_, rfl⟩
  have Hf := Lib.hid hf
  clear hf
  cases f with
  | false =>
    have k3 : price < 1 ∨ 1099511627776 < price := by have := Hf.out; simp at this; omega
    have Hd := Lib.hid (hdef.trans (if_pos (.inr (.inr k3))))
    clear hdef k1 k3
    go_enter Try.func56, Try.ntmps56
    go_wp2_with (first | (go_at_call 64; refine (cIs_any _ b _ true (hc 3) Hp.out).mono ?_; rintro e w' ⟨rfl, rfl⟩) | (go_at_call 58; refine (wIn _ _ _ _).mono ?_; rintro e w' ⟨rfl, rfl⟩; rw [Hf.out]))
    go_ret
    rw [Hd.out]
    exact ⟨rfl, HC.out, Mods.refl _ w⟩
  | true =>
    have k3 : ¬ (qty ≤ c.cum ∨ 1099511627776 < qty ∨ price < 1 ∨ 1099511627776 < price) := by have := Hf.out; simp at this; omega
    have hd2 := hdef.trans (if_neg k3)
    simp only at hd2
    clear hdef k1 k3
    by_cases he : e = 0
    · subst he
      have Hd := Lib.hid (hd2.trans (if_pos rfl))
      clear hd2
      go_enter Try.func56, Try.ntmps56
      go_wp2_with (first
        | (go_at_call 64; refine (cIs_any _ b _ true (hc 3) Hp.out).mono ?_; rintro e w' ⟨rfl, rfl⟩)
        | (go_at_call 58; refine (wIn _ _ _ _).mono ?_; rintro e w' ⟨rfl, rfl⟩; rw [Hf.out])
        | (go_at_call 83; refine Hcon.out.mono ?_; rintro en w1 ⟨rfl, hq1, hq2⟩; have hc1 := hq1.cell; have hz1 := Ob.frozen hq1; have HQ := Lib.hid hq1; clear hq1))
      go_ret
      rw [Hd.out]
      exact ⟨rfl, (Ob.set HQ.out 6 (.int .i64 qty)).set 7 (.int .i64 price), (hq2.setCell (⟨b, 6, none⟩ : Addr) (.inl rfl) _).setCell (⟨b, 7, none⟩ : Addr) (.inl rfl) _⟩
    · have Hd := Lib.hid (hd2.trans (if_neg he))
      have heb : (e == 0) = false := by simpa using he
      clear hd2 he
      go_enter Try.func56, Try.ntmps56
      go_wp2_with (first
        | (go_at_call 64; refine (cIs_any _ b _ true (hc 3) Hp.out).mono ?_; rintro e w' ⟨rfl, rfl⟩)
        | (go_at_call 58; refine (wIn _ _ _ _).mono ?_; rintro e w' ⟨rfl, rfl⟩; rw [Hf.out])
        | (go_at_call 83; refine Hcon.out.mono ?_; rintro en w1 ⟨rfl, hq1, hq2⟩))
      go_ret
      rw [Hd.out]
      exact ⟨rfl, hq1, hq2⟩

end Go.Proofs.Ytjhlaifflhjafaa
