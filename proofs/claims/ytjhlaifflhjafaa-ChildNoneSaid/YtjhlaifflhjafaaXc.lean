import Derived.Test.YtjhlaifflhjafaaXb
namespace Go.Proofs.Ytjhlaifflhjafaa
open Go.RowKit

def cDone (c : Ch) (t : Int) : Ch := if 6 ≤ t ∧ t ≤ 8 then { c with st := t, nq := 0, np := 0 } else { c with st := t }
def cEv (c : Ch) (e cum' : Int) : Int × Ch := if (nx c.st e cum').2 = 0 then (0, cDone c (nx c.st e cum').1) else (200, c)
/-- A child's method's end. -/
def ChP (w : World) (b : Nat) (r : Int × Ch) (e : Ending) (w' : World) : Prop := e = .returned (.int .i64 r.1) ∧ CAt w' b r.2 ∧ Mods (fun k => k = b) w w'
theorem CAt.below {w w' : World} {b : Nat} {c : Ch} (h : CAt w b c) (hb : Below w.heap.size w w') : CAt w' b c := Ob.below h hb h.lt

set_option maxHeartbeats 800000 in
theorem cEvent (w : World) (b : Nat) (c : Ch) (h : CAt w b c) (h1 : 1 ≤ c.st) (e cum' : Int) : Calls Try.prog 82 #[.pointer (some ⟨b, 0, none⟩), .int .i64 e, .int .i64 cum'] w fun en w' => ChP w b (cEv c e cum') en w' := by
  obtain ⟨r, hr⟩ : ∃ r, nx c.st e cum' = r := ⟨_, rfl⟩
  have hev : cEv c e cum' = if r.2 = 0 then (0, cDone c r.1) else (200, c) := by unfold cEv; rw [hr]
  have HE := Lib.hid hev
  have Hr := Lib.hid hr
  clear hev hr
  obtain ⟨id, ve, sd, st, q, p, nq, np, cum⟩ := c
  simp only at *
  obtain ⟨t, err⟩ := r
  have hc : ∀ i, w.cell? ⟨b, i, none⟩ = [Value.string id, .string ve, .int .i64 sd, .int .i64 st, .int .i64 q, .int .i64 p, .int .i64 nq, .int .i64 np, .int .i64 cum, .int .i64 0][i]? := Ob.cell h
  have hp : decide (0 < st) = true := by simp; omega
  have Hp := Lib.hid hp
  have HC := Lib.hid h
  clear h hp
  by_cases he : err = 0
  · subst he
    have HE2 := Lib.hid (HE.out.trans (if_pos rfl))
    obtain ⟨d, hd⟩ : ∃ d, decide (6 ≤ t ∧ t ≤ 8) = d := ⟨_, rfl⟩
    have Hd := Lib.hid hd
    clear hd
    cases d with
    | true =>
      have HE3 : Hid (cEv ⟨id, ve, sd, st, q, p, nq, np, cum⟩ e cum' = (0, ⟨id, ve, sd, t, q, p, 0, 0, cum⟩)) := by
        refine Lib.hid (HE2.out.trans ?_)
        unfold cDone
        rw [if_pos (of_decide_eq_true Hd.out)]
      go_enter Try.func82, Try.ntmps82
      go_wp2_with (first
        | (go_at_call 64; refine (cIs_any _ b st true (hc 3) Hp.out).mono ?_; rintro e w' ⟨rfl, rfl⟩)
        | (go_at_call 95; refine (next_any _ _ _ _).mono ?_; rintro en w1 ⟨rfl, hb1⟩; rw [Hr.out]; have h1' := HC.out.below hb1; have hc1 : ∀ i, w1.cell? ⟨b, i, none⟩ = [Value.string id, .string ve, .int .i64 sd, .int .i64 st, .int .i64 q, .int .i64 p, .int .i64 nq, .int .i64 np, .int .i64 cum, .int .i64 0][i]? := Ob.cell h1'; have hz1 := Ob.frozen h1'; have HC1 := Lib.hid h1'; clear h1')
        | (go_at_call 96; refine (done_b t _ true Hd.out).mono ?_; rintro e w' ⟨rfl, rfl⟩))
      go_ret
      rw [HE3.out]
      exact ⟨rfl, ((Ob.set HC1.out 3 (.int .i64 t)).set 6 (.int .i64 0)).set 7 (.int .i64 0), (((Below.mods_ hb1 (fun k => k = b)).setCell (⟨b, 3, none⟩ : Addr) (.inl rfl) _).setCell (⟨b, 6, none⟩ : Addr) (.inl rfl) _).setCell (⟨b, 7, none⟩ : Addr) (.inl rfl) _⟩
    | false =>
      have HE3 : Hid (cEv ⟨id, ve, sd, st, q, p, nq, np, cum⟩ e cum' = (0, ⟨id, ve, sd, t, q, p, nq, np, cum⟩)) := by
        refine Lib.hid (HE2.out.trans ?_)
        unfold cDone
        rw [if_neg (of_decide_eq_false Hd.out)]
      go_enter Try.func82, Try.ntmps82
      go_wp2_with (first
        | (go_at_call 64; refine (cIs_any _ b st true (hc 3) Hp.out).mono ?_; rintro e w' ⟨rfl, rfl⟩)
        | (go_at_call 95; refine (next_any _ _ _ _).mono ?_; rintro en w1 ⟨rfl, hb1⟩; rw [Hr.out]; have h1' := HC.out.below hb1; have hc1 : ∀ i, w1.cell? ⟨b, i, none⟩ = [Value.string id, .string ve, .int .i64 sd, .int .i64 st, .int .i64 q, .int .i64 p, .int .i64 nq, .int .i64 np, .int .i64 cum, .int .i64 0][i]? := Ob.cell h1'; have hz1 := Ob.frozen h1'; have HC1 := Lib.hid h1'; clear h1')
        | (go_at_call 96; refine (done_b t _ false Hd.out).mono ?_; rintro e w' ⟨rfl, rfl⟩))
      go_ret
      rw [HE3.out]
      exact ⟨rfl, Ob.set HC1.out 3 (.int .i64 t), (Below.mods_ hb1 (fun k => k = b)).setCell (⟨b, 3, none⟩ : Addr) (.inl rfl) _⟩
  · have HE2 := Lib.hid (HE.out.trans (if_neg he))
    have heb : (err != 0) = true := by simpa using he
    clear he
    go_enter Try.func82, Try.ntmps82
    go_wp2_with (first
      | (go_at_call 64; refine (cIs_any _ b st true (hc 3) Hp.out).mono ?_; rintro e w' ⟨rfl, rfl⟩)
      | (go_at_call 95; refine (next_any _ _ _ _).mono ?_; rintro en w1 ⟨rfl, hb1⟩; rw [Hr.out]))
    go_ret
    rw [HE2.out]
    exact ⟨rfl, HC.out.below hb1, Below.mods_ hb1 _⟩

def cNow (c : Ch) (e : Int) : Int × Ch := cEv c e c.cum
set_option maxHeartbeats 800000 in
theorem cNow_any (w : World) (b : Nat) (c : Ch) (h : CAt w b c) (h1 : 1 ≤ c.st) (e : Int) : Calls Try.prog 83 #[.pointer (some ⟨b, 0, none⟩), .int .i64 e] w fun en w' => ChP w b (cNow c e) en w' := by
  obtain ⟨r, hr⟩ : ∃ r, cNow c e = r := ⟨_, rfl⟩
  have hcon := cEvent w b c h h1 e c.cum
  rw [show cEv c e c.cum = r from hr] at hcon
  rw [hr]
  clear hr
  obtain ⟨id, ve, sd, st, q, p, nq, np, cum⟩ := c
  simp only at *
  have hc : ∀ i, w.cell? ⟨b, i, none⟩ = [Value.string id, .string ve, .int .i64 sd, .int .i64 st, .int .i64 q, .int .i64 p, .int .i64 nq, .int .i64 np, .int .i64 cum, .int .i64 0][i]? := Ob.cell h
  have hp : decide (0 < st) = true := by simp; omega
  have Hp := Lib.hid hp
  have Hcon := Lib.hid hcon
  clear h hp hcon
  go_enter Try.func83, Try.ntmps83
  go_wp2_with (first
    | (go_at_call 64; refine (cIs_any _ b st true (hc 3) Hp.out).mono ?_; rintro e w' ⟨rfl, rfl⟩)
    | (go_at_call 82; refine Hcon.out.mono ?_; rintro en w1 ⟨rfl, hq1, hq2⟩))
  go_ret
  exact ⟨rfl, hq1, hq2⟩

section
variable (w : World) (b : Nat) (c : Ch) (h : CAt w b c) (h1 : 1 ≤ c.st)
include h h1
set_option maxHeartbeats 400000 in
theorem cAck : Calls Try.prog 55 #[.pointer (some ⟨b, 0, none⟩)] w fun en w' => ChP w b (cNow c 1) en w' := by
  go_enter Try.func55, Try.ntmps55
  go_wp2_with (go_at_call 83; refine (cNow_any w b c h h1 1).mono ?_; rintro en w1 ⟨rfl, hq1, hq2⟩)
  go_ret
  exact ⟨rfl, hq1, hq2⟩
set_option maxHeartbeats 400000 in
theorem cCanceled : Calls Try.prog 59 #[.pointer (some ⟨b, 0, none⟩)] w fun en w' => ChP w b (cNow c 2) en w' := by
  go_enter Try.func59, Try.ntmps59
  go_wp2_with (go_at_call 83; refine (cNow_any w b c h h1 2).mono ?_; rintro en w1 ⟨rfl, hq1, hq2⟩)
  go_ret
  exact ⟨rfl, hq1, hq2⟩
set_option maxHeartbeats 400000 in
theorem cRejected : Calls Try.prog 61 #[.pointer (some ⟨b, 0, none⟩)] w fun en w' => ChP w b (cNow c 4) en w' := by
  go_enter Try.func61, Try.ntmps61
  go_wp2_with (go_at_call 83; refine (cNow_any w b c h h1 4).mono ?_; rintro en w1 ⟨rfl, hq1, hq2⟩)
  go_ret
  exact ⟨rfl, hq1, hq2⟩
set_option maxHeartbeats 400000 in
theorem cCancel : Calls Try.prog 63 #[.pointer (some ⟨b, 0, none⟩)] w fun en w' => ChP w b (cNow c 9) en w' := by
  go_enter Try.func63, Try.ntmps63
  go_wp2_with (go_at_call 83; refine (cNow_any w b c h h1 9).mono ?_; rintro en w1 ⟨rfl, hq1, hq2⟩)
  go_ret
  exact ⟨rfl, hq1, hq2⟩
end

def cSettle (c : Ch) : Ch := if c.q ≤ c.cum then { c with st := 6 } else c
set_option maxHeartbeats 400000 in
theorem cSettle_any (w : World) (b : Nat) (c : Ch) (h : CAt w b c) : Calls Try.prog 84 #[.pointer (some ⟨b, 0, none⟩)] w fun en w' => (∃ v, en = .returned v) ∧ CAt w' b (cSettle c) ∧ Mods (fun k => k = b) w w' := by
  have hc : ∀ i, w.cell? ⟨b, i, none⟩ = [Value.string c.id, .string c.ve, .int .i64 c.sd, .int .i64 c.st, .int .i64 c.q, .int .i64 c.p, .int .i64 c.nq, .int .i64 c.np, .int .i64 c.cum, .int .i64 0][i]? := Ob.cell h
  have hz := Ob.frozen h
  have HC := Lib.hid h
  by_cases hq : c.q ≤ c.cum
  · have hs : cSettle c = { c with st := 6 } := if_pos hq
    have Hs := Lib.hid hs
    have hd : decide (c.q ≤ c.cum) = true := by simpa using hq
    clear h hs hq
    obtain ⟨id, ve, sd, st, q, p, nq, np, cum⟩ := c
    simp only at *
    go_enter Try.func84, Try.ntmps84
    go_wp2_with fail
    go_quiet (fail)
    go_wp2_with fail
    go_end0
    rw [Hs.out]
    exact ⟨⟨_, rfl⟩, Ob.set (Ob.drewN HC.out _) 3 (.int .i64 6), ((Mods.refl (fun k => k = b) w).drewN _).setCell (⟨b, 3, none⟩ : Addr) (.inl rfl) _⟩
  · have hs : cSettle c = c := if_neg hq
    have Hs := Lib.hid hs
    have hd : decide (c.q ≤ c.cum) = false := by simpa using hq
    clear h hs hq
    obtain ⟨id, ve, sd, st, q, p, nq, np, cum⟩ := c
    simp only at *
    go_enter Try.func84, Try.ntmps84
    go_wp2_with fail
    go_quiet (fail)
    go_wp2_with fail
    go_end0
    rw [Hs.out]
    exact ⟨⟨_, rfl⟩, Ob.drewN HC.out _, (Mods.refl _ w).drewN _⟩

end Go.Proofs.Ytjhlaifflhjafaa
