import Derived.Test.YtjhlaifflhjafaaNa
namespace Go.Proofs.Ytjhlaifflhjafaa
open Go.RowKit

def btr (side a b : Int) : Bool := if side = 1 then decide (b < a) else decide (a < b)
def goodB (side limit price : Int) : Bool := if side = 1 then decide (price ≤ limit) else if side = 2 then decide (limit ≤ price) else false
def inB (n low high : Int) : Bool := decide (low ≤ n) && decide (n ≤ high)

set_option maxHeartbeats 400000 in
theorem mo98 (w : World) (side a b : Int) : Calls Try.prog 98 #[.int .i64 side, .int .i64 a, .int .i64 b] w fun e w' => e = .returned (.bool (btr side a b)) ∧ w = w' := by
  by_cases h : side = 1
  · have e : btr side a b = decide (b < a) := if_pos h
    rw [e]
    subst h
    clear e
    go_enter Try.func98, Try.ntmps98
    go_wp2
    go_ret
    exact ⟨rfl, rfl⟩
  · have e : btr side a b = decide (a < b) := if_neg h
    rw [e]
    clear e
    go_enter Try.func98, Try.ntmps98
    go_wp2
    go_ret
    exact ⟨rfl, rfl⟩
set_option maxHeartbeats 400000 in
theorem mo52 (w : World) (side a b : Int) : Calls Try.prog 52 #[.int .i64 side, .int .i64 a, .int .i64 b] w fun e w' => e = .returned (.bool (goodB side a b)) ∧ w = w' := by
  by_cases h : side = 1
  · have e : goodB side a b = decide (b ≤ a) := if_pos h
    rw [e]
    subst h
    clear e
    go_enter Try.func52, Try.ntmps52
    go_wp2
    go_ret
    exact ⟨rfl, rfl⟩
  · by_cases h2 : side = 2
    · have e : goodB side a b = decide (a ≤ b) := by unfold goodB; rw [if_neg h, if_pos h2]
      rw [e]
      subst h2
      clear e h
      go_enter Try.func52, Try.ntmps52
      go_wp2
      go_ret
      exact ⟨rfl, rfl⟩
    · have e : goodB side a b = false := by unfold goodB; rw [if_neg h, if_neg h2]
      rw [e]
      clear e
      go_enter Try.func52, Try.ntmps52
      go_wp2
      go_ret
      exact ⟨rfl, rfl⟩
set_option maxHeartbeats 400000 in
theorem mo72 (w : World) (n a b : Int) : Calls Try.prog 72 #[.int .i64 n, .int .i64 a, .int .i64 b] w fun e w' => e = .returned (.bool (inB n a b)) ∧ w = w' := by
  unfold inB
  go_enter Try.func72, Try.ntmps72
  go_wp2
  all_goals
    go_ret
    exact ⟨ret_bool (by simp <;> omega), rfl⟩

/-- Where an order rests. -/
def findM (S : Sd) (id : ByteArray) : Int × Int :=
  if mIdx S.1 id < S.1.length then (0, (mIdx S.1 id : Int)) else if mIdx S.2 id < S.2.length then (1, (mIdx S.2 id : Int)) else (-1, -1)

set_option maxHeartbeats 1600000 in
set_option maxRecDepth 100000 in
theorem mo73 (w : World) (mb : Nat) (v0 v1 : Value) (S : Sd) (h : MbAt w mb v0 v1 S) (id : ByteArray) :
    Calls Try.prog 73 #[.pointer (some ⟨mb, 0, none⟩), .string id] w fun e w' => e = .returned (.tuple #[.int .i64 (findM S id).1, .int .i64 (findM S id).2]) ∧ Below w.heap.size w w' := by
  have hn := h.hn
  obtain ⟨A0, c0, rfl, -, -, -⟩ := own_shape h.h0
  obtain ⟨A1, c1, rfl, -, -, -⟩ := own_shape h.h1
  have hlt := h.ho.lt
  have hO := Ob.new w 9 [.string id]
  have e0 : findM S id = if mIdx S.1 id < S.1.length then (0, (mIdx S.1 id : Int)) else if mIdx S.2 id < S.2.length then (1, (mIdx S.2 id : Int)) else (-1, -1) := rfl
  have l0 : mIdx S.1 id ≤ S.1.length := idxP_le _ _
  have l1 : mIdx S.2 id ≤ S.2.length := idxP_le _ _
  have k0 : ∀ W, MbAt W mb (.slice A0 S.1.length c0) (.slice A1 S.2.length c1) S → Ob W w.heap.size 9 [.string id] → Calls Try.prog 89 #[.slice A0 S.1.length c0, .func (.func 90) #[] #[.pointer (some ⟨w.heap.size, 0, none⟩)]] W fun e w' => e = .returned (.int .i64 (frI (mIdx S.1 id) S.1.length)) ∧ Below W.heap.size W w' :=
    fun W hW hO => mo89 W _ id S.1 A0 _ c0 (Rd.of_own hW.h0) rfl (by omega) hO
  have k1 : ∀ W, MbAt W mb (.slice A0 S.1.length c0) (.slice A1 S.2.length c1) S → Ob W w.heap.size 9 [.string id] → Calls Try.prog 89 #[.slice A1 S.2.length c1, .func (.func 90) #[] #[.pointer (some ⟨w.heap.size, 0, none⟩)]] W fun e w' => e = .returned (.int .i64 (frI (mIdx S.2 id) S.2.length)) ∧ Below W.heap.size W w' :=
    fun W hW hO => mo89 W _ id S.2 A1 _ c1 (Rd.of_own hW.h1) rfl (by omega) hO
  generalize findM S id = F at *
  generalize mIdx S.1 id = F0 at *
  generalize mIdx S.2 id = F1 at *
  generalize hn0 : S.1.length = n0 at *
  generalize hn1 : S.2.length = n1 at *
  have H := Lib.hid h
  have HO := Lib.hid hO
  have E0 := Lib.hid e0
  have K0 := Lib.hid k0
  have K1 := Lib.hid k1
  clear h hO e0 k0 k1
  go_enter Try.func73, Try.ntmps73
  go_upto_region 1 with (fail)
  refine cutW (fun W => MbAt W mb (.slice A0 n0 c0) (.slice A1 n1 c1) S ∧ Ob W w.heap.size 9 [.string id] ∧ Below w.heap.size w W) ⟨H.out.below Below.alloc_set, HO.out, Below.alloc_set⟩ ?_
  clear H HO hn0 hn1
  rintro W ⟨h, hO, hB⟩
  have H := Lib.hid h
  have HO := Lib.hid hO
  have HB := Lib.hid hB
  clear h hO hB
  go_wp2_with fail
  go_loopw [8] (fun i wr => (i = .int .i64 0 ∨ (i = .int .i64 1 ∧ ¬ F0 < n0) ∨ (i = .int .i64 2 ∧ ¬ F0 < n0 ∧ ¬ F1 < n1)) ∧ Below W.heap.size W wr) (fun i _ => 3 - (intOf i).toNat)
  case atStart => exact ⟨.inl rfl, Below.refl _ _⟩
  case round =>
    obtain ⟨hi, hbr⟩ := hrel
    have hc := (H.out.below hbr).ho.cell
    rcases hi with rfl | ⟨rfl, h0⟩ | ⟨rfl, h0, h1⟩
    · have hk := K0.out wr (H.out.below hbr) (HO.out.below hbr HO.out.lt)
      by_cases h0 : F0 < n0
      · have e1 : frI F0 n0 = (F0 : Int) := if_pos h0
        have e2 : F = (0, (F0 : Int)) := by rw [E0.out, if_pos h0]
        rw [e1] at hk
        have HK := Lib.hid hk
        have E2 := Lib.hid e2
        have HBR := Lib.hid hbr
        clear e1 e2 hk hbr
        go_wp2_with (go_at_call 89; refine HK.out.mono ?_; rintro e w2 ⟨rfl, hb2⟩)
        go_ret2
        rw [E2.out]
        exact ⟨rfl, (HB.out.trans (HBR.out.mono HB.out.size)).trans (hb2.mono (Nat.le_trans HB.out.size HBR.out.size))⟩
      · have e1 : frI F0 n0 = -1 := if_neg h0
        rw [e1] at hk
        have HK := Lib.hid hk
        have HBR := Lib.hid hbr
        clear e1 hk hbr
        go_wp2_with (go_at_call 89; refine HK.out.mono ?_; rintro e w2 ⟨rfl, hb2⟩)
        go_roundw
        case rel => exact ⟨.inr (.inl ⟨rfl, h0⟩), HBR.out.trans (hb2.mono HBR.out.size)⟩
        case measure => simp [intOf]
    · have hk := K1.out wr (H.out.below hbr) (HO.out.below hbr HO.out.lt)
      by_cases h1 : F1 < n1
      · have e1 : frI F1 n1 = (F1 : Int) := if_pos h1
        have e2 : F = (1, (F1 : Int)) := by rw [E0.out, if_neg h0, if_pos h1]
        rw [e1] at hk
        have HK := Lib.hid hk
        have E2 := Lib.hid e2
        have HBR := Lib.hid hbr
        clear e1 e2 hk hbr
        go_wp2_with (go_at_call 89; refine HK.out.mono ?_; rintro e w2 ⟨rfl, hb2⟩)
        go_ret2
        rw [E2.out]
        exact ⟨rfl, (HB.out.trans (HBR.out.mono HB.out.size)).trans (hb2.mono (Nat.le_trans HB.out.size HBR.out.size))⟩
      · have e1 : frI F1 n1 = -1 := if_neg h1
        rw [e1] at hk
        have HK := Lib.hid hk
        have HBR := Lib.hid hbr
        clear e1 hk hbr
        go_wp2_with (go_at_call 89; refine HK.out.mono ?_; rintro e w2 ⟨rfl, hb2⟩)
        go_roundw
        case rel => exact ⟨.inr (.inr ⟨rfl, h0, h1⟩), HBR.out.trans (hb2.mono HBR.out.size)⟩
        case measure => simp [intOf]
    · have e2 : F = (-1, -1) := by rw [E0.out, if_neg h0, if_neg h1]
      have E2 := Lib.hid e2
      have HBR := Lib.hid hbr
      clear e2 hbr
      go_wp2_with fail
      go_ret2
      rw [E2.out]
      exact ⟨rfl, HB.out.trans (HBR.out.mono HB.out.size)⟩

set_option maxHeartbeats 800000 in
theorem mo36 (w : World) (mb : Nat) (v0 v1 : Value) (S : Sd) (h : MbAt w mb v0 v1 S) :
    Calls Try.prog 36 #[.pointer (some ⟨mb, 0, none⟩)] w fun e w' => e = .returned (.int .i64 ((S.1.length + S.2.length : Nat) : Int)) ∧ Below w.heap.size w w' := by
  have hn := h.hn
  obtain ⟨A0, c0, rfl, -, -, -⟩ := own_shape h.h0
  obtain ⟨A1, c1, rfl, -, -, -⟩ := own_shape h.h1
  have hc := h.ho.cell
  have hw : IntKind.i64.wrap ((S.1.length : Int) + S.2.length) = (S.1.length : Int) + S.2.length := by rw [IntWalk.i64_in _ (by omega)]
  have x0 : w.cell? ⟨mb, 0, none⟩ = some (.slice A0 S.1.length c0) := hc 0
  have x1 : w.cell? ⟨mb, 1, none⟩ = some (.slice A1 S.2.length c1) := hc 1
  generalize S.1.length = n0 at *
  generalize S.2.length = n1 at *
  clear h hc
  go_enter Try.func36, Try.ntmps36
  go_upto_region 3 with (fail)
  go_quiet (fail)
  go_wp2_with fail
  go_ret
  exact ⟨ret_int (by simp), Below.drewN (Below.refl _ _) _⟩
set_option maxHeartbeats 400000 in
theorem mo36_nil (w : World) : Calls Try.prog 36 #[.pointer none] w fun e w' => e = .returned (.int .i64 0) ∧ w = w' := by
  go_enter Try.func36, Try.ntmps36
  go_wp2
  go_ret
  exact ⟨rfl, rfl⟩
set_option maxHeartbeats 400000 in
theorem mo48_nil (w : World) (id : ByteArray) : Calls Try.prog 48 #[.pointer none, .string id] w fun e w' => e = .returned (.tuple #[.int .i64 0, .bool false]) ∧ w = w' := by
  go_enter Try.func48, Try.ntmps48
  go_wp2
  go_ret2
  exact ⟨rfl, rfl⟩

/-- How much is left of an order. -/
def leftM (S : Sd) (id : ByteArray) : Int × Bool :=
  match S.1[mIdx S.1 id]? with
  | some o => (o.left, true)
  | none => match S.2[mIdx S.2 id]? with
    | some o => (o.left, true)
    | none => (0, false)

end Go.Proofs.Ytjhlaifflhjafaa
