import Derived.Test.YtfmmaigaanikgaaRh
import Derived.Test.YtfmmaigaanikgaaRc
namespace Go.Proofs.Ytfmmaigaanikgaa
open Go.RowKit

section
variable (w : World) (v : Value) (H : Calls Try.prog 63 #[v] w fun e w' => e = .returned (.bool false) ∧ w = w')
include H
set_option maxHeartbeats 400000 in
theorem nPeek : Calls Try.prog 50 #[v] w fun e w' => e = .returned (.tuple #[.int .i64 0, .int .i64 1]) ∧ w = w' := by
  go_enter Try.func50, Try.ntmps50
  go_wp2_with (go_at_call 63; refine H.mono ?_; rintro e w' ⟨rfl, rfl⟩)
  go_ret2
  exact ⟨rfl, rfl⟩
theorem nPop : Calls Try.prog 48 #[v] w fun e w' => e = .returned (.tuple #[.int .i64 0, .int .i64 1]) ∧ w = w' := by
  go_enter Try.func48, Try.ntmps48
  go_wp2_with (go_at_call 50; refine (nPeek w v H).mono ?_; rintro e w' ⟨rfl, rfl⟩)
  go_ret2
  exact ⟨rfl, rfl⟩
theorem nPush (x : Int) : Calls Try.prog 46 #[v, .int .i64 x] w fun e w' => e = .returned (.int .i64 1) ∧ w = w' := by
  go_enter Try.func46, Try.ntmps46
  go_wp2_with (go_at_call 63; refine H.mono ?_; rintro e w' ⟨rfl, rfl⟩)
  go_ret
  exact ⟨rfl, rfl⟩
theorem nLen : Calls Try.prog 52 #[v] w fun e w' => e = .returned (.int .i64 0) ∧ w = w' := by
  go_enter Try.func52, Try.ntmps52
  go_wp2_with (go_at_call 63; refine H.mono ?_; rintro e w' ⟨rfl, rfl⟩)
  go_ret
  exact ⟨rfl, rfl⟩
theorem nRoom : Calls Try.prog 53 #[v] w fun e w' => e = .returned (.int .i64 0) ∧ w = w' := by
  go_enter Try.func53, Try.ntmps53
  go_wp2_with (go_at_call 63; refine H.mono ?_; rintro e w' ⟨rfl, rfl⟩)
  go_ret
  exact ⟨rfl, rfl⟩
end

/-- RingNone's loop: the ring that is empty, the list of both. -/
structure RNo (w W : World) (b : Nat) : Prop where
  hs : Ob W b 87 [.slice none 0 0, .int .i64 0, .int .i64 0]
  ha : Ob W (b + 1) 74 [.pointer none, .pointer (some ⟨b, 0, none⟩)]
  hb : Below w.heap.size w W
  hB : w.heap.size ≤ b
theorem RNo.below {w W W' : World} {b : Nat} (h : RNo w W b) (hb : Below W.heap.size W W') : RNo w W' b := ⟨h.hs.below hb h.hs.lt, h.ha.below hb h.ha.lt, h.hb.trans (hb.mono h.hb.size), h.hB⟩

set_option maxHeartbeats 1600000 in
set_option maxRecDepth 100000 in
theorem ringNone_walk (w : World) (x : Int) :
    Calls Try.prog 14 #[.int .i64 x] w fun e w' => e = .returned (.bool true) ∧ Below w.heap.size w w' := by
  go_enter Try.func14, Try.ntmps14
  go_wp2_with fail
  refine (awake05 _).mono ?_
  rintro e w1 ⟨rfl, hb⟩
  go_wp2_with fail
  have hN : RNo w ((w1.alloc (.cells #[.slice none 0 0, .int .i64 0, .int .i64 0] 87)).alloc (.cells #[.pointer none, .pointer (some ⟨w1.heap.size, 0, none⟩)] 74)) w1.heap.size :=
    ⟨(Ob.new w1 87 _).alloc _, Ob.new2 w1 _ 74 _, (hb.alloc hb.size _).alloc (by simp; exact Nat.le_succ_of_le hb.size) _, hb.size⟩
  have HN := Lib.hid hN
  clear hN hb
  generalize w1.heap.size = b at *
  go_loopw [17] (fun i wr => ∃ k : Nat, k ≤ 2 ∧ i = .int .i64 k ∧ RNo w wr b) (fun i _ => 2 - (intOf i).toNat)
  case atStart => exact ⟨0, by omega, rfl, HN.out⟩
  case round =>
    clear HN
    obtain ⟨k, hk, rfl, hR⟩ := hrel
    have hc2 := hR.ha.cell
    have HR := Lib.hid hR
    match k, hk with
    | 0, _ =>
      clear hR
      have hz : ∀ V, Calls Try.prog 63 #[.pointer none] V fun e w' => e = .returned (.bool false) ∧ V = w' := fun V => RIIs_nil V
      have HZ := Lib.hid hz
      clear hz
      go_wp2_with (first
        | (go_at_call 48; refine (nPop _ _ (HZ.out _)).mono ?_; rintro e w' ⟨rfl, rfl⟩)
        | (go_at_call 50; refine (nPeek _ _ (HZ.out _)).mono ?_; rintro e w' ⟨rfl, rfl⟩)
        | (go_at_call 46; refine (nPush _ _ (HZ.out _) _).mono ?_; rintro e w' ⟨rfl, rfl⟩)
        | (go_at_call 52; refine (nLen _ _ (HZ.out _)).mono ?_; rintro e w' ⟨rfl, rfl⟩)
        | (go_at_call 53; refine (nRoom _ _ (HZ.out _)).mono ?_; rintro e w' ⟨rfl, rfl⟩)
        | (go_at_call 54; refine (rTold _ none none 0 0 [] _ (Rd.nil _ 1) rfl (by decide) (fun W Bn S _ _ hB => gives_none 5 Bn S none W hB (fun V _ => HZ.out V))).mono ?_; rintro e w' ⟨rfl, hb⟩))
      go_roundw
      case rel => exact ⟨1, by omega, by go_num, HR.out.below hb⟩
      case measure => simp [intOf]
    | 1, _ =>
      have hz : ∀ V, Below wr.heap.size wr V → Calls Try.prog 63 #[.pointer (some ⟨b, 0, none⟩)] V fun e w' => e = .returned (.bool false) ∧ V = w' := fun V hV => RIIs_none V b ((hR.hs.below hV hR.hs.lt).cell 0)
      have HZ := Lib.hid hz
      clear hz hR
      go_wp2_with (first
        | (go_at_call 48; refine (nPop _ _ (HZ.out _ (Below.refl _ _))).mono ?_; rintro e w' ⟨rfl, rfl⟩)
        | (go_at_call 50; refine (nPeek _ _ (HZ.out _ (Below.refl _ _))).mono ?_; rintro e w' ⟨rfl, rfl⟩)
        | (go_at_call 46; refine (nPush _ _ (HZ.out _ (Below.refl _ _)) _).mono ?_; rintro e w' ⟨rfl, rfl⟩)
        | (go_at_call 52; refine (nLen _ _ (HZ.out _ (Below.refl _ _))).mono ?_; rintro e w' ⟨rfl, rfl⟩)
        | (go_at_call 53; refine (nRoom _ _ (HZ.out _ (Below.refl _ _))).mono ?_; rintro e w' ⟨rfl, rfl⟩)
        | (go_at_call 54; refine (rTold _ _ none 0 0 [] _ (Rd.nil _ 1) rfl (by decide) (fun W Bn S hW _ hB => gives_none 5 Bn S _ W hB (fun V hV => HZ.out V (hW.trans (hV.mono hW.size))))).mono ?_; rintro e w' ⟨rfl, hb⟩))
      go_roundw
      case rel => exact ⟨2, by omega, by go_num, HR.out.below hb⟩
      case measure => simp [intOf]
    | 2, _ =>
      clear hR
      go_wp2
      go_ret
      exact ⟨rfl, HR.out.hb⟩

end Go.Proofs.Ytfmmaigaanikgaa
