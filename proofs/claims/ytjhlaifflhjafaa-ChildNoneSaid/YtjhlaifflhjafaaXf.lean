import Derived.Test.YtjhlaifflhjafaaXe
namespace Go.Proofs.Ytjhlaifflhjafaa
open Go.RowKit

/-- A child that may be sent. -/
def newB (id ve : ByteArray) (sd q p : Int) : Bool := (nameB id && nameB ve) && ((decide (1 ≤ sd) && decide (sd ≤ 2)) && ((decide (1 ≤ q) && decide (q ≤ 1099511627776)) && (decide (1 ≤ p) && decide (p ≤ 1099511627776))))
def NewP (w : World) (id ve : ByteArray) (sd q p : Int) (e : Ending) (w' : World) : Prop :=
  Below w.heap.size w w' ∧ ((newB id ve sd q p = false ∧ ∃ k : Int, k ≠ 0 ∧ e = .returned (.tuple #[.pointer none, .int .i64 k])) ∨
    (newB id ve sd q p = true ∧ ∃ b, e = .returned (.tuple #[.pointer (some ⟨b, 0, none⟩), .int .i64 0]) ∧ CAt w' b ⟨id, ve, sd, 1, q, p, 0, 0, 0⟩ ∧ w.heap.size ≤ b))

set_option maxHeartbeats 1600000 in
set_option maxRecDepth 100000 in
theorem cNew_any (w : World) (id ve : ByteArray) (sd q p : Int) : Calls Try.prog 19 #[.string id, .string ve, .int .i64 sd, .int .i64 q, .int .i64 p] w fun e w' => NewP w id ve sd q p e w' := by
  cases h1 : nameB id with
  | false =>
    have H1 := Lib.hid h1
    clear h1
    go_enter Try.func19, Try.ntmps19
    go_wp2_with (go_at_call 16; refine (kValid _ _).mono ?_; rintro e w1 ⟨rfl, hb1⟩; rw [H1.out])
    go_ret2
    exact ⟨hb1, .inl ⟨by unfold newB; rw [H1.out]; rfl, 43, by decide, rfl⟩⟩
  | true =>
  have H1 := Lib.hid h1
  clear h1
  cases h2 : nameB ve with
  | false =>
    have H2 := Lib.hid h2
    clear h2
    go_enter Try.func19, Try.ntmps19
    go_wp2_with fail
    refine (kValid _ _).mono ?_
    rintro e w1 ⟨rfl, hb1⟩
    rw [H1.out]
    go_wp2_with fail
    refine (kValid _ _).mono ?_
    rintro e w2 ⟨rfl, hb2⟩
    rw [H2.out]
    go_wp2_with fail
    go_ret2
    exact ⟨hb1.trans (hb2.mono hb1.size), .inl ⟨by unfold newB; rw [H1.out, H2.out]; rfl, 43, by decide, rfl⟩⟩
  | true =>
  have H2 := Lib.hid h2
  clear h2
  obtain ⟨f1, hf1⟩ : ∃ f, (decide (1 ≤ sd) && decide (sd ≤ 2)) = f := ⟨_, rfl⟩
  obtain ⟨f2, hf2⟩ : ∃ f, (decide (1 ≤ q) && decide (q ≤ 1099511627776)) = f := ⟨_, rfl⟩
  obtain ⟨f3, hf3⟩ : ∃ f, (decide (1 ≤ p) && decide (p ≤ 1099511627776)) = f := ⟨_, rfl⟩
  have hn : newB id ve sd q p = (f1 && (f2 && f3)) := by unfold newB; rw [H1.out, H2.out, hf1, hf2, hf3]; rfl
  have HN := Lib.hid hn
  have Hf1 := Lib.hid hf1
  have Hf2 := Lib.hid hf2
  have Hf3 := Lib.hid hf3
  clear hn hf1 hf2 hf3
  go_enter Try.func19, Try.ntmps19
  go_wp2_with fail
  refine (kValid _ _).mono ?_
  rintro e w1 ⟨rfl, hb1⟩
  rw [H1.out]
  go_wp2_with fail
  refine (kValid _ _).mono ?_
  rintro e w2 ⟨rfl, hb2⟩
  rw [H2.out]
  have HB := Lib.hid (hb1.trans (hb2.mono hb1.size))
  clear hb1 hb2
  cases f1 with
  | false =>
    go_wp2_with (go_at_call 58; refine (wIn _ _ _ _).mono ?_; rintro e w' ⟨rfl, rfl⟩; rw [Hf1.out])
    go_ret2
    exact ⟨HB.out, .inl ⟨by rw [HN.out]; rfl, 2, by decide, rfl⟩⟩
  | true =>
  cases f2 with
  | false =>
    go_wp2_with (go_at_call 58; refine (wIn _ _ _ _).mono ?_; rintro e w' ⟨rfl, rfl⟩; first | rw [Hf1.out] | rw [Hf2.out])
    go_ret2
    exact ⟨HB.out, .inl ⟨by rw [HN.out]; rfl, 2, by decide, rfl⟩⟩
  | true =>
  cases f3 with
  | false =>
    go_wp2_with (go_at_call 58; refine (wIn _ _ _ _).mono ?_; rintro e w' ⟨rfl, rfl⟩; first | rw [Hf1.out] | rw [Hf2.out] | rw [Hf3.out])
    go_ret2
    exact ⟨HB.out, .inl ⟨by rw [HN.out]; rfl, 2, by decide, rfl⟩⟩
  | true =>
  go_wp2_with (go_at_call 58; refine (wIn _ _ _ _).mono ?_; rintro e w' ⟨rfl, rfl⟩; first | rw [Hf1.out] | rw [Hf2.out] | rw [Hf3.out])
  go_ret2
  refine ⟨HB.out.alloc HB.out.size _, .inr ⟨HN.out, w2.heap.size, rfl, ?_, HB.out.size⟩⟩
  exact Ob.new w2 41 (Ch.cells ⟨id, ve, sd, 1, q, p, 0, 0, 0⟩)

set_option maxHeartbeats 1600000 in
set_option maxRecDepth 100000 in
theorem cStatus_any (w : World) (b : Nat) (c : Ch) (h : CAt w b c) (hi : CInv c) : Calls Try.prog 21 #[.pointer (some ⟨b, 0, none⟩)] w fun e w' => e = .returned (.agg #[.string c.id, .string c.ve, .int .i64 c.sd, .int .i64 c.st, .int .i64 c.q, .int .i64 c.p, .int .i64 c.nq, .int .i64 c.np, .int .i64 c.cum, .int .i64 (clm c)]) ∧ Below w.heap.size w w' := by
  have hc := h.cell
  have hp : decide (0 < c.st) = true := by have := hi.st1; simp; omega
  have Hp := Lib.hid hp
  have HI := Lib.hid hi
  have hbl := Ob.lt h
  have HC := Lib.hid h
  clear hp hi h
  go_enter Try.func21, Try.ntmps21
  go_upto_region 1 with (fail)
  refine cutW (fun W => CAt W b c ∧ Ob W w.heap.size 35 [.string ⟨#[]⟩, .string ⟨#[]⟩, .int .i64 0, .int .i64 0, .int .i64 0, .int .i64 0, .int .i64 0, .int .i64 0, .int .i64 0, .int .i64 0] ∧ Below w.heap.size w W) ⟨Ob.alloc HC.out _, Ob.new w 35 [.string ⟨#[]⟩, .string ⟨#[]⟩, .int .i64 0, .int .i64 0, .int .i64 0, .int .i64 0, .int .i64 0, .int .i64 0, .int .i64 0, .int .i64 0], Below.alloc_set⟩ ?_
  clear hc HC
  rintro W ⟨hC, hO, hB⟩
  have hc := hC.cell
  have HC := Lib.hid hC
  have HO := Lib.hid hO
  have HB := Lib.hid hB
  have hsz := hO.lt
  clear hC hO hB
  go_upto_region 4 with (go_at_call 64; refine (cIs_any _ b c.st true (hc 3) Hp.out).mono ?_; rintro e w' ⟨rfl, rfl⟩)
  refine cutW (fun V => CAt V b c ∧ Ob V w.heap.size 35 [.string ⟨#[]⟩, .string ⟨#[]⟩, .int .i64 0, .int .i64 0, .int .i64 0, .int .i64 0, .int .i64 0, .int .i64 0, .int .i64 0, .int .i64 0] ∧ Ob V W.heap.size 35 [.string c.id, .string c.ve, .int .i64 c.sd, .int .i64 c.st, .int .i64 c.q, .int .i64 c.p, .int .i64 c.nq, .int .i64 c.np, .int .i64 c.cum, .int .i64 0] ∧ Below w.heap.size w V) ⟨Ob.alloc HC.out _, HO.out.alloc _, Ob.new W 35 [.string c.id, .string c.ve, .int .i64 c.sd, .int .i64 c.st, .int .i64 c.q, .int .i64 c.p, .int .i64 c.nq, .int .i64 c.np, .int .i64 c.cum, .int .i64 0], HB.out.alloc HB.out.size _⟩ ?_
  clear hc HC HO HB
  rintro V ⟨hC, hO, hO2, hB⟩
  have hc := hC.cell
  have HC := Lib.hid hC
  have HO := Lib.hid hO
  have HO2 := Lib.hid hO2
  have HB := Lib.hid hB
  clear hC hO hO2 hB
  generalize W.heap.size = N2 at *
  go_wp2_with (go_at_call 65; refine (cClaim65 _ c HI.out).mono ?_; rintro e w1 ⟨rfl, hb⟩; have ho := (HO.out.below hb HO.out.lt).cell; have hz := (HO.out.below hb HO.out.lt).frozen; have ho2 := (HO2.out.below hb HO2.out.lt).cell; have hz2 := (HO2.out.below hb HO2.out.lt).frozen)
  have hB1 : Below w.heap.size w w1 := HB.out.trans (hb.mono HB.out.size)
  refine bodyPost_ret (v := .agg #[.string c.id, .string c.ve, .int .i64 c.sd, .int .i64 c.st, .int .i64 c.q, .int .i64 c.p, .int .i64 c.nq, .int .i64 c.np, .int .i64 c.cum, .int .i64 (clm c)]) (by simp [results, Try.results21, go_sem, ho]) rfl ⟨rfl, ?_⟩
  repeat (refine Below.setCell ?_ (by simp; try omega) _)
  exact hB1

end Go.Proofs.Ytjhlaifflhjafaa
