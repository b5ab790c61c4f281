import Derived.Test.YtjhlaifflhjafaaPa
import Derived.Carry
namespace Go.Proofs.Ytjhlaifflhjafaa
section
open Go.RowKit

/-! The document's book in the world. -/
structure RbAt (w : World) (rb : Nat) (v : Value) (L : List Ro) : Prop where
  ho : Ob w rb 88 [v]
  h : w.ownsRow (rb + 1) 129 4 v L.length (L.flatMap roC)
  hn : L.length ≤ 1000
def RbS (rb : Nat) (v : Value) (k : Nat) : Prop := k = rb ∨ v.ownBlock = some k
theorem RbAt.lt {w : World} {rb : Nat} {v : Value} {L : List Ro} (h : RbAt w rb v L) {k : Nat} (hk : RbS rb v k) : rb ≤ k ∧ k < w.heap.size := by
  rcases hk with rfl | hk
  · exact ⟨Nat.le_refl _, h.ho.lt⟩
  · exact ⟨by have := own_block h.h k hk; omega, own_lt h.h k hk⟩
theorem RbAt.mods {w w' : World} {rb : Nat} {v : Value} {L : List Ro} {T : Nat → Prop} (h : RbAt w rb v L) (hm : Mods T w w') (hT : ∀ k, RbS rb v k → ¬ T k) : RbAt w' rb v L :=
  ⟨h.ho.mods hm (hT _ (.inl rfl)), own_mods h.h hm (fun k hk => hT _ (.inr hk)), h.hn⟩
theorem RbAt.below {w w' : World} {rb : Nat} {v : Value} {L : List Ro} (h : RbAt w rb v L) (hb : Below w.heap.size w w') : RbAt w' rb v L := h.mods (Below.mods_ hb (fun _ => False)) (fun _ _ => id)
def RbTo (w : World) (rb : Nat) (v : Value) (L' : List Ro) (w' : World) : Prop :=
  ∃ v', RbAt w' rb v' L' ∧ Mods (RbS rb v) w w' ∧ ∀ k, RbS rb v' k → RbS rb v k ∨ w.heap.size ≤ k
theorem RbTo.trans {w w1 w2 : World} {rb : Nat} {v v' : Value} {L' : List Ro} (hm : Mods (RbS rb v) w w1) (hf : ∀ k, RbS rb v' k → RbS rb v k ∨ w.heap.size ≤ k) (h2 : RbTo w1 rb v' L' w2) : RbTo w rb v L' w2 := by
  obtain ⟨u, a, b, c⟩ := h2
  refine ⟨u, a, ?_, fun k hk => ?_⟩
  · refine ⟨b.os.trans hm.os, b.tape.trans hm.tape, b.output.trans hm.output, Nat.le_trans hm.size b.size, fun k hk hn => ?_⟩
    rw [b.block k (Nat.lt_of_lt_of_le hk hm.size) (fun hs => ?_), hm.block k hk hn]
    rcases hf k hs with h | h
    · exact hn h
    · omega
  · rcases c k hk with h | h
    · exact hf k h
    · exact .inr (Nat.le_trans hm.size h)
theorem RbTo.same {w w' : World} {rb : Nat} {v : Value} {L : List Ro} (h : RbAt w rb v L) (hb : Below w.heap.size w w') : RbTo w rb v L w' := ⟨v, h.below hb, Below.mods_ hb _, fun _ hk => .inl hk⟩
theorem RbTo.below {B : Nat} {a w w' : World} {rb : Nat} {v : Value} {L L' : List Ro} (h : RbTo w rb v L' w') (hr : RbAt w rb v L) (hb : Below B a w) (h1 : B ≤ rb) : Below B a w' := by
  obtain ⟨u, -, b, -⟩ := h
  exact Below.mods hb b (fun k hk => Nat.le_trans h1 (hr.lt hk).1) (Nat.le_trans h1 (by have := hr.ho.lt; omega))
theorem RbAt.shape {w : World} {rb : Nat} {v : Value} {L : List Ro} (h : RbAt w rb v L) : ∃ A c, v = .slice A L.length c := by
  obtain ⟨A, c, e, -⟩ := own_shape h.h
  exact ⟨A, c, e⟩
theorem RbAt.cells {w : World} {rb c : Nat} {A : Option Addr} {L : List Ro} (h : RbAt w rb (.slice A L.length c) L) {i : Nat} {o : Ro} (ho : L[i]? = some o) :
    ∃ g off, A = some ⟨g, off, none⟩ ∧ w.cell? ⟨g, off + i * 4, none⟩ = some (.string o.id) ∧ w.cell? ⟨g, off + i * 4 + 1, none⟩ = some (.int .i64 o.side) ∧ w.cell? ⟨g, off + i * 4 + 2, none⟩ = some (.int .i64 o.left) ∧ w.cell? ⟨g, off + i * 4 + 3, none⟩ = some (.int .i64 o.price) := by
  have hi := (List.getElem?_eq_some_iff.1 ho).1
  obtain ⟨g, off, hA, -, hg⟩ := (Rd.of_own h.h).2.2 (by omega)
  refine ⟨g, off, hA, ?_, ?_, ?_, ?_⟩
  · exact hg _ _ (flat_at roC 4 roC_len L i 0 o ho (by omega))
  · rw [Nat.add_assoc]; exact hg _ _ (flat_at roC 4 roC_len L i 1 o ho (by omega))
  · rw [Nat.add_assoc]; exact hg _ _ (flat_at roC 4 roC_len L i 2 o ho (by omega))
  · rw [Nat.add_assoc]; exact hg _ _ (flat_at roC 4 roC_len L i 3 o ho (by omega))

set_option maxHeartbeats 400000 in
theorem rb92 (w : World) (n a b : Int) : Calls Try.prog 92 #[.int .i64 n, .int .i64 a, .int .i64 b] w fun e w' => e = .returned (.bool (inB n a b)) ∧ w = w' := by
  unfold inB
  go_enter Try.func92, Try.ntmps92
  go_wp2
  all_goals
    go_ret
    exact ⟨ret_bool (by simp_all <;> omega), rfl⟩
set_option maxHeartbeats 400000 in
theorem rb101 (w : World) (side a b : Int) : Calls Try.prog 101 #[.int .i64 side, .int .i64 a, .int .i64 b] w fun e w' => e = .returned (.bool (goodB side a b)) ∧ w = w' := by
  by_cases h : side = 1
  · have e : goodB side a b = decide (b ≤ a) := if_pos h
    rw [e]
    subst h
    clear e
    go_enter Try.func101, Try.ntmps101
    go_wp2
    all_goals
      go_ret
      exact ⟨rfl, rfl⟩
  · by_cases h2 : side = 2
    · have e : goodB side a b = decide (a ≤ b) := by unfold goodB; rw [if_neg h, if_pos h2]
      rw [e]
      subst h2
      clear e h
      go_enter Try.func101, Try.ntmps101
      go_wp2
      all_goals
        go_ret
        exact ⟨rfl, rfl⟩
    · have e : goodB side a b = false := by unfold goodB; rw [if_neg h, if_neg h2]
      rw [e]
      clear e
      go_enter Try.func101, Try.ntmps101
      go_wp2
      all_goals
        go_ret
        exact ⟨rfl, rfl⟩

set_option maxHeartbeats 1600000 in
theorem rb79 (w : World) (rb : Nat) (v : Value) (L : List Ro) (h : RbAt w rb v L) (id : ByteArray) :
    Calls Try.prog 79 #[.pointer (some ⟨rb, 0, none⟩), .string id] w fun e w' => e = .returned (.int .i64 (frI (rIdx L id) L.length)) ∧ w = w' := by
  have hc := h.ho.cell
  have hn := h.hn
  obtain ⟨A, c, rfl⟩ := h.shape
  have hce := fun i o ho => h.cells (i := i) (o := o) ho
  have HCE := Lib.hid hce
  obtain ⟨F, hF⟩ : ∃ F, rIdx L id = F := ⟨_, rfl⟩
  have HF := Lib.hid hF
  have hFR : F ≤ L.length := by rw [← hF]; exact idxP_le _ _
  rw [hF]
  obtain ⟨n, hln⟩ : ∃ n, L.length = n := ⟨_, rfl⟩
  rw [hln] at hFR hn hc ⊢
  have HL := Lib.hid hln
  clear h hF hce hln
  go_enter Try.func79, Try.ntmps79
  go_wp2_with fail
  go_loop [5] (fun i => ∃ k : Nat, k ≤ F ∧ i = .int .i64 k) (fun i => F + 1 - (intOf i).toNat)
  case atStart => exact ⟨0, by omega, rfl⟩
  case round =>
    obtain ⟨k, hk, rfl⟩ := hrel
    by_cases hlt : k < n
    · obtain ⟨o, ho⟩ : ∃ o, L[k]? = some o := ⟨_, List.getElem?_eq_getElem (by rw [HL.out]; exact hlt)⟩
      obtain ⟨g, off, rfl, x0, -, -, -⟩ := HCE.out k o ho
      by_cases hkF : k < F
      · have he : (o.id.toList == id.toList) = false := idxP_lt (fun o : Ro => eqB id o.id) (l := L) (by have := HF.out; unfold rIdx at this; omega) ho
        have he2 : ¬ o.id.toList = id.toList := by simpa using he
        clear ho
        go_wp2_with fail
        go_round
        case rel => exact ⟨k + 1, by omega, by go_num⟩
        case measure => simp [intOf]; omega
      · obtain rfl : k = F := by omega
        have he : (o.id.toList == id.toList) = true := idxP_at (fun o : Ro => eqB id o.id) (l := L) (by have := HF.out; unfold rIdx at this; rw [this]; exact ho)
        have he2 : o.id.toList = id.toList := by simpa using he
        clear ho
        go_wp2_with fail
        go_ret
        exact ⟨ret_int (by unfold frI; rw [if_pos hlt]), rfl⟩
    · obtain rfl : k = n := by omega
      obtain rfl : k = F := by omega
      go_wp2_with fail
      go_ret
      exact ⟨ret_int (by unfold frI; rw [if_neg hlt]), rfl⟩
end

section
open Go.RowKit

def frO : Option Nat → Int
  | none => -1
  | some k => k
theorem firK_lt (side : Int) (L : List Ro) : ∀ k a, firK side L k = some a → a < k ∧ a < L.length
  | 0, a, h => by cases h
  | k + 1, a, h => by
    unfold firK firU at h
    have ih := firK_lt side L k
    revert h
    generalize firK side L k = f at *
    intro h
    split at h
    · obtain ⟨h1, h2⟩ := ih a h
      exact ⟨by omega, h2⟩
    · rename_i o ho
      have hk := (List.getElem?_eq_some_iff.1 ho).1
      split at h
      · split at h
        · injection h with h
          subst h
          exact ⟨by omega, hk⟩
        · split at h
          · obtain ⟨h1, h2⟩ := ih a h
            exact ⟨by omega, h2⟩
          · split at h
            · injection h with h
              subst h
              exact ⟨by omega, hk⟩
            · obtain ⟨h1, h2⟩ := ih a h
              exact ⟨by omega, h2⟩
      · obtain ⟨h1, h2⟩ := ih a h
        exact ⟨by omega, h2⟩

set_option maxHeartbeats 3200000 in
set_option maxRecDepth 100000 in
theorem rb100_1 (w : World) (rb : Nat) (v : Value) (L : List Ro) (h : RbAt w rb v L) :
    Calls Try.prog 100 #[.pointer (some ⟨rb, 0, none⟩), .int .i64 1] w fun e w' => e = .returned (.int .i64 (frO (firL 1 L))) ∧ Below w.heap.size w w' := by
  have hn := h.hn
  obtain ⟨A, c, rfl⟩ := h.shape
  have H := Lib.hid h
  unfold firL
  obtain ⟨n, hln⟩ : ∃ n, L.length = n := ⟨_, rfl⟩
  rw [hln] at hn H ⊢
  have HL := Lib.hid hln
  clear h hln
  go_enter Try.func100, Try.ntmps100
  go_wp2_with fail
  go_loopw [5, 6] (fun a i wr => ∃ k : Nat, k ≤ n ∧ i = .int .i64 k ∧ a = .int .i64 (frO (firK 1 L k)) ∧ Below w.heap.size w wr) (fun _ i _ => n - (intOf i).toNat)
  case atStart => exact ⟨0, by omega, rfl, rfl, Below.refl _ _⟩
  case round =>
    obtain ⟨k, hk, rfl, rfl, hB⟩ := hrel
    have hw := H.out.below hB
    have hc := hw.ho.cell
    have HB := Lib.hid hB
    by_cases hlt : k < n
    · obtain ⟨o, ho⟩ : ∃ o, L[k]? = some o := ⟨_, List.getElem?_eq_getElem (by rw [HL.out]; exact hlt)⟩
      have hw' := hw
      rw [← HL.out] at hw'
      obtain ⟨g, off, rfl, x0, x1, x2, x3⟩ := hw'.cells ho
      have HO := Lib.hid ho
      have HW := Lib.hid hw
      have hstep : firK 1 L (k + 1) = if o.side = 1 then (match firK 1 L k with
          | none => some k
          | some a => match L[a]? with
            | none => firK 1 L k
            | some b => if btr 1 o.price b.price = true then some k else firK 1 L k) else firK 1 L k := by
        show firU 1 L (firK 1 L k) k = _
        unfold firU
        rw [ho]
        rfl
      have HS := Lib.hid hstep
      clear hw hw' hB ho hstep
      go_upto_region 6 with (fail)
      have hO := Ob.new wr 129 [.string o.id, .int .i64 o.side, .int .i64 o.left, .int .i64 o.price]
      refine cutW (fun Y => Ob Y wr.heap.size 129 [.string o.id, .int .i64 o.side, .int .i64 o.left, .int .i64 o.price] ∧ RbAt Y rb (.slice (some ⟨g, off, none⟩) n c) L ∧ Below w.heap.size w Y) ⟨hO, HW.out.below Below.alloc_set, HB.out.trans ((Below.alloc_set : Below wr.heap.size wr _).mono HB.out.size)⟩ ?_
      clear hO HW HB x0 x1 x2 x3 hc
      generalize wr.heap.size = N at *
      rintro Y ⟨hO, hW, hBY⟩
      have hoc := hO.cell
      have hc := hW.ho.cell
      have HW := Lib.hid hW
      have HBY := Lib.hid hBY
      clear hO hW hBY
      by_cases hs : o.side = 1
      · have d0 : (o.side != 1) = false := by simp [hs]
        have hS := HS.out
        rw [if_pos hs] at hS
        have HS := Lib.hid hS
        clear hS hs
        cases hf : firK 1 L k with
        | none =>
          rw [hf] at HS
          have e := HS.out
          simp only at e
          have HE := Lib.hid e
          clear e HS hf
          have hm : frO none = -1 := rfl
          rw [hm]
          clear hm
          go_upto_region 7 with (fail)
          go_cut [63] (fun v Z => v = .bool true ∧ Below w.heap.size w Z)
          case first =>
            go_quiet (fail)
            (try go_wp2_with fail)
            go_meet
            exact ⟨rfl, Below.drewN HBY.out _⟩
          case rest =>
          obtain ⟨rfl, hBZ⟩ := hcut
          have HBZ := Lib.hid hBZ
          clear hBZ
          go_wp2_with fail
          go_roundw
          case rel => exact ⟨k + 1, by omega, by go_num, by rw [HE.out]; rfl, HBZ.out⟩
          case measure => simp [intOf]; omega
        | some a =>
          have hal := (firK_lt 1 L k a hf).2
          obtain ⟨b, hb⟩ : ∃ b, L[a]? = some b := ⟨_, List.getElem?_eq_getElem hal⟩
          have hW' := HW.out
          rw [← HL.out] at hW'
          obtain ⟨g2, off2, hA2, -, -, -, y3⟩ := hW'.cells hb
          injection hA2 with hA2
          injection hA2 with e1 e2 _
          subst e1
          subst e2
          rw [HL.out] at hal
          rw [hf] at HS
          have e := HS.out
          simp only at e
          rw [hb] at e
          simp only at e
          have hm : frO (some a) = (a : Int) := rfl
          rw [hm]
          clear hm hf hW' hb HS
          have da : decide ((a : Int) < 0) = false := by simp
          by_cases hbt : b.price < o.price
          · have hbt2 : btr 1 o.price b.price = true := by simp [btr, hbt]
            rw [if_pos hbt2] at e
            have HE := Lib.hid e
            have db : decide (b.price < o.price) = true := by simpa using hbt
            clear e hbt2 hbt
            go_upto_region 7 with (fail)
            go_cut [63] (fun v Z => v = .bool true ∧ Below w.heap.size w Z)
            case first =>
              go_quiet (fail)
              (try go_wp2_with fail)
              go_meet
              exact ⟨rfl, Below.drewN HBY.out _⟩
            case rest =>
            obtain ⟨rfl, hBZ⟩ := hcut
            have HBZ := Lib.hid hBZ
            clear hBZ
            go_wp2_with fail
            go_roundw
            case rel => exact ⟨k + 1, by omega, by go_num, by rw [HE.out]; rfl, HBZ.out⟩
            case measure => simp [intOf]; omega
          · have hbt2 : ¬ btr 1 o.price b.price = true := by simpa [btr] using hbt
            rw [if_neg hbt2] at e
            have HE := Lib.hid e
            have db : decide (b.price < o.price) = false := by simpa using hbt
            clear e hbt2 hbt
            go_upto_region 7 with (fail)
            go_cut [63] (fun v Z => v = .bool false ∧ Below w.heap.size w Z)
            case first =>
              go_quiet (fail)
              (try go_wp2_with fail)
              go_meet
              exact ⟨rfl, Below.drewN HBY.out _⟩
            case rest =>
            obtain ⟨rfl, hBZ⟩ := hcut
            have HBZ := Lib.hid hBZ
            clear hBZ
            go_wp2_with fail
            go_roundw
            case rel => exact ⟨k + 1, by omega, by go_num, by rw [HE.out]; rfl, HBZ.out⟩
            case measure => simp [intOf]; omega
      · have d0 : (o.side != 1) = true := by simp [hs]
        have hS := HS.out
        rw [if_neg hs] at hS
        have HS := Lib.hid hS
        clear hS hs
        go_wp2_with fail
        go_roundw
        case rel => exact ⟨k + 1, by omega, by go_num, by rw [HS.out], HBY.out⟩
        case measure => simp [intOf]; omega
    · obtain rfl : k = n := by omega
      clear hB hw
      go_wp2_with fail
      go_ret
      exact ⟨rfl, HB.out⟩

set_option maxHeartbeats 3200000 in
set_option maxRecDepth 100000 in
theorem rb100_2 (w : World) (rb : Nat) (v : Value) (L : List Ro) (h : RbAt w rb v L) :
    Calls Try.prog 100 #[.pointer (some ⟨rb, 0, none⟩), .int .i64 2] w fun e w' => e = .returned (.int .i64 (frO (firL 2 L))) ∧ Below w.heap.size w w' := by
  have hn := h.hn
  obtain ⟨A, c, rfl⟩ := h.shape
  have H := Lib.hid h
  unfold firL
  obtain ⟨n, hln⟩ : ∃ n, L.length = n := ⟨_, rfl⟩
  rw [hln] at hn H ⊢
  have HL := Lib.hid hln
  clear h hln
  go_enter Try.func100, Try.ntmps100
  go_wp2_with fail
  go_loopw [5, 6] (fun a i wr => ∃ k : Nat, k ≤ n ∧ i = .int .i64 k ∧ a = .int .i64 (frO (firK 2 L k)) ∧ Below w.heap.size w wr) (fun _ i _ => n - (intOf i).toNat)
  case atStart => exact ⟨0, by omega, rfl, rfl, Below.refl _ _⟩
  case round =>
    obtain ⟨k, hk, rfl, rfl, hB⟩ := hrel
    have hw := H.out.below hB
    have hc := hw.ho.cell
    have HB := Lib.hid hB
    by_cases hlt : k < n
    · obtain ⟨o, ho⟩ : ∃ o, L[k]? = some o := ⟨_, List.getElem?_eq_getElem (by rw [HL.out]; exact hlt)⟩
      have hw' := hw
      rw [← HL.out] at hw'
      obtain ⟨g, off, rfl, x0, x1, x2, x3⟩ := hw'.cells ho
      have HO := Lib.hid ho
      have HW := Lib.hid hw
      have hstep : firK 2 L (k + 1) = if o.side = 2 then (match firK 2 L k with
          | none => some k
          | some a => match L[a]? with
            | none => firK 2 L k
            | some b => if btr 2 o.price b.price = true then some k else firK 2 L k) else firK 2 L k := by
        show firU 2 L (firK 2 L k) k = _
        unfold firU
        rw [ho]
        rfl
      have HS := Lib.hid hstep
      clear hw hw' hB ho hstep
      go_upto_region 6 with (fail)
      have hO := Ob.new wr 129 [.string o.id, .int .i64 o.side, .int .i64 o.left, .int .i64 o.price]
      refine cutW (fun Y => Ob Y wr.heap.size 129 [.string o.id, .int .i64 o.side, .int .i64 o.left, .int .i64 o.price] ∧ RbAt Y rb (.slice (some ⟨g, off, none⟩) n c) L ∧ Below w.heap.size w Y) ⟨hO, HW.out.below Below.alloc_set, HB.out.trans ((Below.alloc_set : Below wr.heap.size wr _).mono HB.out.size)⟩ ?_
      clear hO HW HB x0 x1 x2 x3 hc
      generalize wr.heap.size = N at *
      rintro Y ⟨hO, hW, hBY⟩
      have hoc := hO.cell
      have hc := hW.ho.cell
      have HW := Lib.hid hW
      have HBY := Lib.hid hBY
      clear hO hW hBY
      by_cases hs : o.side = 2
      · have d0 : (o.side != 2) = false := by simp [hs]
        have hS := HS.out
        rw [if_pos hs] at hS
        have HS := Lib.hid hS
        clear hS hs
        cases hf : firK 2 L k with
        | none =>
          rw [hf] at HS
          have e := HS.out
          simp only at e
          have HE := Lib.hid e
          clear e HS hf
          have hm : frO none = -1 := rfl
          rw [hm]
          clear hm
          go_upto_region 7 with (fail)
          go_cut [63] (fun v Z => v = .bool true ∧ Below w.heap.size w Z)
          case first =>
            go_quiet (fail)
            (try go_wp2_with fail)
            go_meet
            exact ⟨rfl, Below.drewN HBY.out _⟩
          case rest =>
          obtain ⟨rfl, hBZ⟩ := hcut
          have HBZ := Lib.hid hBZ
          clear hBZ
          go_wp2_with fail
          go_roundw
          case rel => exact ⟨k + 1, by omega, by go_num, by rw [HE.out]; rfl, HBZ.out⟩
          case measure => simp [intOf]; omega
        | some a =>
          have hal := (firK_lt 2 L k a hf).2
          obtain ⟨b, hb⟩ : ∃ b, L[a]? = some b := ⟨_, List.getElem?_eq_getElem hal⟩
          have hW' := HW.out
          rw [← HL.out] at hW'
          obtain ⟨g2, off2, hA2, -, -, -, y3⟩ := hW'.cells hb
          injection hA2 with hA2
          injection hA2 with e1 e2 _
          subst e1
          subst e2
          rw [HL.out] at hal
          rw [hf] at HS
          have e := HS.out
          simp only at e
          rw [hb] at e
          simp only at e
          have hm : frO (some a) = (a : Int) := rfl
          rw [hm]
          clear hm hf hW' hb HS
          have da : decide ((a : Int) < 0) = false := by simp
          by_cases hbt : o.price < b.price
          · have hbt2 : btr 2 o.price b.price = true := by simp [btr, hbt]
            rw [if_pos hbt2] at e
            have HE := Lib.hid e
            have db : decide (o.price < b.price) = true := by simpa using hbt
            clear e hbt2 hbt
            go_upto_region 7 with (fail)
            go_cut [63] (fun v Z => v = .bool true ∧ Below w.heap.size w Z)
            case first =>
              go_quiet (fail)
              (try go_wp2_with fail)
              go_meet
              exact ⟨rfl, Below.drewN HBY.out _⟩
            case rest =>
            obtain ⟨rfl, hBZ⟩ := hcut
            have HBZ := Lib.hid hBZ
            clear hBZ
            go_wp2_with fail
            go_roundw
            case rel => exact ⟨k + 1, by omega, by go_num, by rw [HE.out]; rfl, HBZ.out⟩
            case measure => simp [intOf]; omega
          · have hbt2 : ¬ btr 2 o.price b.price = true := by simpa [btr] using hbt
            rw [if_neg hbt2] at e
            have HE := Lib.hid e
            have db : decide (o.price < b.price) = false := by simpa using hbt
            clear e hbt2 hbt
            go_upto_region 7 with (fail)
            go_cut [63] (fun v Z => v = .bool false ∧ Below w.heap.size w Z)
            case first =>
              go_quiet (fail)
              (try go_wp2_with fail)
              go_meet
              exact ⟨rfl, Below.drewN HBY.out _⟩
            case rest =>
            obtain ⟨rfl, hBZ⟩ := hcut
            have HBZ := Lib.hid hBZ
            clear hBZ
            go_wp2_with fail
            go_roundw
            case rel => exact ⟨k + 1, by omega, by go_num, by rw [HE.out]; rfl, HBZ.out⟩
            case measure => simp [intOf]; omega
      · have d0 : (o.side != 2) = true := by simp [hs]
        have hS := HS.out
        rw [if_neg hs] at hS
        have HS := Lib.hid hS
        clear hS hs
        go_wp2_with fail
        go_roundw
        case rel => exact ⟨k + 1, by omega, by go_num, by rw [HS.out], HBY.out⟩
        case measure => simp [intOf]; omega
    · obtain rfl : k = n := by omega
      clear hB hw
      go_wp2_with fail
      go_ret
      exact ⟨rfl, HB.out⟩

theorem rb100 (w : World) (rb : Nat) (v : Value) (L : List Ro) (h : RbAt w rb v L) (side : Int) (hs : side = 1 ∨ side = 2) :
    Calls Try.prog 100 #[.pointer (some ⟨rb, 0, none⟩), .int .i64 side] w fun e w' => e = .returned (.int .i64 (frO (firL side L))) ∧ Below w.heap.size w w' := by
  rcases hs with rfl | rfl
  · exact rb100_1 w rb v L h
  · exact rb100_2 w rb v L h
end

section
open Go.RowKit

theorem info129 : (Try.prog.info? 129).map (fun i => (i.zero, i.size, i.bytes)) = some (some (.agg #[.string ⟨#[]⟩, .int .i64 0, .int .i64 0, .int .i64 0]), 4, 40) := by kernel_rfl
theorem ro_one (l : List Ro) : ∀ u ∈ l.flatMap roC, u.oneCell' = true := by
  intro u hu
  obtain ⟨o, -, ho⟩ := List.mem_flatMap.1 hu
  exact roC_one o u ho
/-- append of a piece of a row onto a row of one's own. -/
theorem app129 (w : World) (base : Nat) (ty : TypeId) (v : Value) (n : Nat) (X : List Ro) (hown : w.ownsRow base 129 4 v n (X.flatMap roC)) (a : Addr) (m c : Nat) (Y : List Ro) (hl : Y.length = m)
    (hnews : ∀ j u, (Y.flatMap roC)[j]? = some u → w.cell? (a.add j) = some u) (h63 : n + m ≤ 100000) (hbase : base ≤ w.heap.size) :
    ∃ v' w', (Builtin.append_ #[86, 86] ty #[v, .slice (some a) m c]).run Try.prog w = .ok v' w' ∧ w'.ownsRow base 129 4 v' (n + m) ((X ++ Y).flatMap roC) ∧ w.grownBy w' v.ownBlock ∧ (v'.ownBlock = v.ownBlock ∨ v'.ownBlock = some w.heap.size) := by
  obtain ⟨i, hi, hz, hs, hb⟩ := info_parts info129
  obtain ⟨v', w', h1, h2, h3, -, h5⟩ := run_append_own_at (P := Try.prog) w base 86 ty 129 i _ 4 40 Try.underlying86 hi hz hs hb (by rfl) (by omega) v n _ hown a m c (Y.flatMap roC) (by rw [flat_len roC 4 roC_len, hl]) hnews (ro_one Y) (by simp only [maxLen]; omega) (by omega) hbase
  exact ⟨v', w', h1, by rw [List.flatMap_append]; exact h2, h3, h5⟩

set_option maxHeartbeats 1600000 in
set_option maxRecDepth 100000 in
theorem rb94 (w : World) (rb : Nat) (v : Value) (L : List Ro) (h : RbAt w rb v L) (i : Nat) (hi : i < L.length) :
    Calls Try.prog 94 #[.pointer (some ⟨rb, 0, none⟩), .int .i64 i] w fun e w' => (∃ u, e = .returned u) ∧ RbTo w rb v (cutAt i L) w' := by
  have hn := h.hn
  obtain ⟨A, c, rfl⟩ := h.shape
  obtain ⟨g, cur, rfl, hbg, hob, hnc, hc9, hcl, htk⟩ := own_ob h.h (by omega)
  have hcell : ∀ (W : World), Ob W g 129 cur → ∀ (j : Nat) u, (L.flatMap roC)[j]? = some u → W.cell? ⟨g, j, none⟩ = some u := fun W hW j u hu => by
    rw [hW.cell j]
    rw [← htk] at hu
    have hj := (List.getElem?_eq_some_iff.1 hu).1
    rw [List.length_take] at hj
    rw [List.getElem?_take_of_lt (by omega)] at hu
    exact hu
  obtain ⟨v1, w1, r1, o1, g1, b1⟩ := app129 w w.heap.size 86 (.slice none 0 0) 0 [] (own_nil _ _ _ _) ⟨g, 0, none⟩ i c (L.take i) (by rw [List.length_take]; omega) (fun j u hu => by
    rw [Go.WideShapes.add_plain, Nat.zero_add]
    refine hcell w hob j u ?_
    have e : L.flatMap roC = (L.take i).flatMap roC ++ (L.drop i).flatMap roC := by rw [← List.flatMap_append, List.take_append_drop]
    rw [e, List.getElem?_append_left (List.getElem?_eq_some_iff.1 hu).1]
    exact hu) (by omega) (Nat.le_refl _)
  have hB1 : Below w.heap.size w w1 := (Below.refl _ w).grown g1 (Nat.le_refl _) (fun k hk => by cases hk)
  have hob1 := hob.below hB1 hob.lt
  have hrb1 := h.ho.below hB1 h.ho.lt
  rw [Nat.zero_add, List.nil_append] at o1
  obtain ⟨v2, w2, r2, o2, g2, b2⟩ : ∃ v' w', (Builtin.append_ #[86, 86] 86 #[v1, .slice (if c = i + 1 then some ⟨g, 0, none⟩ else some ⟨g, (i + 1) * 4, none⟩) (L.length - (i + 1)) (c - (i + 1))]).run Try.prog w1 = .ok v' w' ∧ w'.ownsRow w.heap.size 129 4 v' (i + (L.length - (i + 1))) ((L.take i ++ L.drop (i + 1)).flatMap roC) ∧ w1.grownBy w' v1.ownBlock ∧ (v'.ownBlock = v1.ownBlock ∨ v'.ownBlock = some w1.heap.size) := by
    by_cases hcc : c = i + 1
    · rw [if_pos hcc]
      have hnl : L.drop (i + 1) = [] := List.drop_eq_nil_of_le (by omega)
      exact app129 w1 w.heap.size 86 v1 i (L.take i) o1 ⟨g, 0, none⟩ (L.length - (i + 1)) (c - (i + 1)) (L.drop (i + 1)) (by rw [List.length_drop]) (fun j u hu => by rw [hnl] at hu; cases hu) (by omega) hB1.size
    · rw [if_neg hcc]
      exact app129 w1 w.heap.size 86 v1 i (L.take i) o1 ⟨g, (i + 1) * 4, none⟩ (L.length - (i + 1)) (c - (i + 1)) (L.drop (i + 1)) (by rw [List.length_drop]) (fun j u hu => by
        rw [Go.WideShapes.add_plain]
        refine hcell w1 hob1 _ u ?_
        have e : L.flatMap roC = (L.take (i + 1)).flatMap roC ++ (L.drop (i + 1)).flatMap roC := by rw [← List.flatMap_append, List.take_append_drop]
        have el : ((L.take (i + 1)).flatMap roC).length = (i + 1) * 4 := by rw [flat_len roC 4 roC_len, List.length_take]; congr 1; omega
        rw [e, List.getElem?_append_right (by omega), el]
        rw [show (i + 1) * 4 + j - (i + 1) * 4 = j by omega]
        exact hu) (by omega) hB1.size
  obtain ⟨A2, c2, rfl, -, -, -⟩ := own_shape o2
  have hS1 : ∀ k, v1.ownBlock = some k → w.heap.size ≤ k := fun k hk => own_block o1 k hk
  have hB2 : Below w.heap.size w w2 := Below.grown hB1 g2 hB1.size (fun k hk => hS1 k hk)
  have hrb2 := h.ho.below hB2 h.ho.lt
  have hlen : i + (L.length - (i + 1)) = (cutAt i L).length := by rw [cutAt_len hi]; omega
  have hwl := h.ho.lt
  have hfin : RbTo w rb (.slice (some ⟨g, 0, none⟩) L.length c) (cutAt i L) (w2.setCell ⟨rb, 0, none⟩ (.slice A2 (i + (L.length - (i + 1))) c2)) := by
    have hu := (Upd.refl rb w2).set 0 (.slice A2 (i + (L.length - (i + 1))) c2)
    rw [hlen] at o2 hu ⊢
    refine ⟨_, ⟨hrb2.set 0 _, own_base (own_upd o2 hu (by omega)) (by omega), by rw [cutAt_len hi]; omega⟩, ?_, fun k hk => ?_⟩
    · exact (Below.mods_ hB2 _).setCell (⟨rb, 0, none⟩ : Addr) (.inl (.inl rfl)) _
    · rcases hk with rfl | hk
      · exact .inl (.inl rfl)
      · exact .inr (own_block o2 k hk)
  have hc0 := h.ho.cell
  have hc1 := hrb1.cell
  have hc2 := hrb2.cell
  have hz := hrb2.frozen
  have hlt := hrb2.lt
  have HF := Lib.hid hfin
  have hw1 : IntKind.i64.wrap ((i : Int) + 1) = ((i + 1 : Nat) : Int) := by rw [IntWalk.i64_in _ (by omega)]; omega
  have R1 := Lib.hid r1
  have R2 := Lib.hid r2
  generalize L.length = n at *
  clear hfin hS1 hB1 hB2 hob1 hrb1 hrb2 hob hcell o1 o2 g1 g2 b1 b2 h htk hcl hlen r1 r2
  go_enter Try.func94, Try.ntmps94
  go_upto_region 2 with (at_builtin; refine wpList_appendR rfl _ _ 86 86 rfl _ _ rfl rfl R1.out ?_)
  go_wp2_with (at_builtin; refine wpList_appendR rfl _ _ 86 86 rfl _ _ rfl rfl R2.out ?_)
  all_goals
    go_end0
    exact ⟨⟨_, rfl⟩, HF.out⟩
end

end Go.Proofs.Ytjhlaifflhjafaa
