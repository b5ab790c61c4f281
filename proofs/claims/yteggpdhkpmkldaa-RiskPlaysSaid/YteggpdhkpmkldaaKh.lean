import Derived.Test.YteggpdhkpmkldaaKg
namespace Go.Proofs.Yteggpdhkpmkldaa
open Go.RowKit

theorem bk_below {B : Nat} {w w1 w2 : World} {gp gh : Nat} (h : Below B w w1) (hm : Mods (fun k => k = gp ∨ k = gh) w1 w2) (h1 : B ≤ gp) (h2 : B ≤ gh) (hs : B ≤ w1.heap.size) : Below B w w2 :=
  Below.mods h hm (fun k hk => by rcases hk with rfl | rfl <;> assumption) hs

set_option maxHeartbeats 1600000 in
set_option maxRecDepth 100000 in
theorem awake17 (w : World) : Calls Try.prog 23 #[] w fun e w' => e = .returned (.bool true) ∧ Below w.heap.size w w' := by
  go_enter Try.func23, Try.ntmps23
  go_wp2_with fail
  have hob := Ob.new w 3 [.int .i64 100]
  have hrd : Rd (w.alloc (.cells #[.int .i64 100] 3)) (some ⟨w.heap.size, 0, none⟩) 1 1 ([100].map (Value.int .i64)) := ⟨by simp, by omega, fun _ => ⟨_, _, rfl, by simp, fun j u hu => by rw [Nat.zero_add]; exact (hob.cell j).trans hu⟩⟩
  refine (kNew_in _ (some ⟨w.heap.size, 0, none⟩) 1 1 2 [100] hrd rfl (by decide) (by decide) (by decide) (by decide)).mono ?_
  rintro e w1 ⟨hb, ⟨hf, -⟩ | ⟨-, b, gp, gh, cp, rfl, hB, l1, l2, l3⟩⟩
  · exact absurd hf (by decide)
  have hbw : Below w.heap.size w w1 := ((Below.refl _ w).alloc (Nat.le_refl _) (.cells #[.int .i64 100] 3)).trans (hb.mono (by simp))
  simp at l1 l2 l3
  clear hob hrd hb
  simp only [List.map_cons, List.map_nil] at hB
  have hz0 := hB
  go_wp2_with fail
  refine (kReserve_ok w1 b gp gh cp 0 0 _ _ 60 _ hB rfl (by unfold POk; decide) rfl (by decide) (by decide)).mono ?_
  rintro e w2 ⟨rfl, hB2, hM⟩
  have hb2 := bk_below hbw hM (by omega) (by omega) hbw.size
  clear hB hM hbw hz0
  go_wp2_with fail
  refine (kReserve_limit w2 b gp gh cp 0 1 _ _ 50 _ hB2 rfl (by unfold POk; decide) rfl (by decide) (by decide)).mono ?_
  rintro e w3 ⟨rfl, hM⟩
  have hB3 := hB2.mods hM id id id
  have hb3 := Below.mods hb2 hM (fun k hk => hk.elim) hb2.size
  clear hB2 hM hb2
  go_wp2_with fail
  refine (kReserve_ok w3 b gp gh cp 0 1 _ _ 40 _ hB3 rfl (by unfold POk; decide) rfl (by decide) (by decide)).mono ?_
  rintro e w4 ⟨rfl, hB4, hM⟩
  have hb4 := bk_below hb3 hM (by omega) (by omega) hb3.size
  clear hB3 hM hb3
  go_wp2_with fail
  refine (kSettle_ok w4 b gp gh cp 0 0 _ _ 10 60 _ hB4 rfl (by unfold POk; decide) rfl (by decide) (by decide) (by decide)).mono ?_
  rintro e w5 ⟨rfl, hB5, hM⟩
  have hb5 := bk_below hb4 hM (by omega) (by omega) hb4.size
  clear hB4 hM hb4
  go_wp2_with fail
  refine (kUsed_in w5 b gp gh cp 0 _ _ _ hB5 rfl (by unfold POk; decide)).mono ?_
  rintro e w6 ⟨rfl, k6, rfl⟩
  go_wp2_with fail
  refine (kRealised_in _ b gp gh cp 0 _ _ _ (hB5.drewN k6) rfl).mono ?_
  rintro e w7 ⟨rfl, k7, rfl⟩
  go_wp2_with fail
  go_ret
  exact ⟨rfl, Below.drewN hb5 _⟩

/-- v is no book. -/
structure NoBk (w : World) (v : Value) : Prop where
  is_ : ∀ k, Calls Try.prog 56 #[v] (w.drewN k) fun e w' => e = .returned (.bool false) ∧ w.drewN k = w'
  acc : ∀ k i, Calls Try.prog 57 #[v, .int .i64 i] (w.drewN k) fun e w' => e = .returned (.bool false) ∧ w.drewN k = w'
  slt : ∀ k i, Calls Try.prog 58 #[v, .int .i64 i] (w.drewN k) fun e w' => e = .returned (.bool false) ∧ w.drewN k = w'
theorem noBk_nil (w : World) : NoBk w (.pointer none) := ⟨fun _ => kIs_nil _, fun _ i => kAccount_nil _ i, fun _ i => kSlot_nil _ i⟩
theorem noBk_none (w : World) (b : Nat) (h : w.cell? ⟨b, 0, none⟩ = some (.slice none 0 0)) : NoBk w (.pointer (some ⟨b, 0, none⟩)) :=
  ⟨fun k => kIs_any _ b 0 0 none false (by exact h) rfl, fun k i => kAccount_none _ b i (by exact h), fun k i => kSlot_none _ b i (by exact h)⟩
section
variable {w : World} {v : Value} (h : NoBk w v) (k : Nat)
include h
theorem NoBk.acc' (i : Int) : Calls Try.prog 57 #[v, .int .i64 i] (w.drewN k) fun e w' => e = .returned (.bool false) ∧ ∃ j, w' = (w.drewN k).drewN j := (h.acc k i).mono fun _ _ ⟨he, hw⟩ => ⟨he, 0, hw.symm⟩
theorem NoBk.slt' (i : Int) : Calls Try.prog 58 #[v, .int .i64 i] (w.drewN k) fun e w' => e = .returned (.bool false) ∧ ∃ j, w' = (w.drewN k).drewN j := (h.slt k i).mono fun _ _ ⟨he, hw⟩ => ⟨he, 0, hw.symm⟩
theorem NoBk.reserve (a s n : Int) : Calls Try.prog 25 #[v, .int .i64 a, .int .i64 s, .int .i64 n] (w.drewN k) fun e w' => e = .returned (.int .i64 1) ∧ ∃ j, w' = w.drewN j :=
  (kReserve_nil _ v a s n (h.is_ k)).mono fun _ _ ⟨he, j, hw⟩ => ⟨he, k + j, by rw [hw, World.drewN_drewN]⟩
theorem NoBk.resize (s n : Int) : Calls Try.prog 26 #[v, .int .i64 s, .int .i64 n] (w.drewN k) fun e w' => e = .returned (.int .i64 1) ∧ ∃ j, w' = w.drewN j :=
  (kResize_not _ v s n 1 rfl (kHeld1_nil _ v s n (h.is_ k))).mono fun _ _ ⟨he, j, hw⟩ => ⟨he, k + j, by rw [hw, World.drewN_drewN]⟩
theorem NoBk.settle (s n : Int) : Calls Try.prog 27 #[v, .int .i64 s, .int .i64 n] (w.drewN k) fun e w' => e = .returned (.int .i64 1) ∧ ∃ j, w' = w.drewN j :=
  (kSettle_not _ v s n 1 _ rfl rfl (kHeld1_nil _ v s _ (h.is_ k))).mono fun _ _ ⟨he, j, hw⟩ => ⟨he, k + j, by rw [hw, World.drewN_drewN]⟩
theorem NoBk.undo (a n : Int) : Calls Try.prog 34 #[v, .int .i64 a, .int .i64 n] (w.drewN k) fun e w' => e = .returned (.int .i64 1) ∧ ∃ j, w' = w.drewN j :=
  (kUndo_nil _ v a n (h.is_ k)).mono fun _ _ ⟨he, j, hw⟩ => ⟨he, k + j, by rw [hw, World.drewN_drewN]⟩
theorem NoBk.used (a : Int) : Calls Try.prog 28 #[v, .int .i64 a] (w.drewN k) fun e w' => e = .returned (.int .i64 0) ∧ ∃ j, w' = w.drewN j :=
  (kUsed_out _ v a (h.acc' k a)).mono fun _ _ ⟨he, j, hw⟩ => ⟨he, k + j, by rw [hw, World.drewN_drewN]⟩
theorem NoBk.realised (a : Int) : Calls Try.prog 35 #[v, .int .i64 a] (w.drewN k) fun e w' => e = .returned (.int .i64 0) ∧ ∃ j, w' = w.drewN j :=
  (kRealised_out _ v a (h.acc' k a)).mono fun _ _ ⟨he, j, hw⟩ => ⟨he, k + j, by rw [hw, World.drewN_drewN]⟩
theorem NoBk.left (a : Int) : Calls Try.prog 36 #[v, .int .i64 a] (w.drewN k) fun e w' => e = .returned (.int .i64 0) ∧ ∃ j, w' = w.drewN j :=
  (kLeft_out _ v a (h.acc' k a)).mono fun _ _ ⟨he, j, hw⟩ => ⟨he, k + j, by rw [hw, World.drewN_drewN]⟩
theorem NoBk.held (s : Int) : Calls Try.prog 33 #[v, .int .i64 s] (w.drewN k) fun e w' => e = .returned (.tuple #[.int .i64 0, .int .i64 0, .bool false]) ∧ ∃ j, w' = w.drewN j :=
  (kHeld_out _ v s (h.slt' k s)).mono fun _ _ ⟨he, j, hw⟩ => ⟨he, k + j, by rw [hw, World.drewN_drewN]⟩
end

/-- RiskNone's loop: the op, the book that is empty, the list of both. -/
structure RNo (w W : World) (b : Nat) (cs : List Value) : Prop where
  ho : Ob W w.heap.size 57 cs
  hs : Ob W b 73 [.slice none 0 0, .slice none 0 0]
  ha : Ob W (b + 1) 58 [.pointer none, .pointer (some ⟨b, 0, none⟩)]
  hb : Below w.heap.size w W
theorem RNo.drewN {w W : World} {b : Nat} {cs : List Value} (h : RNo w W b cs) (k : Nat) : RNo w (W.drewN k) b cs := ⟨h.1.drewN k, h.2.drewN k, h.3.drewN k, Below.drewN h.4 k⟩
set_option maxHeartbeats 1600000 in
set_option maxRecDepth 100000 in
theorem riskNone_walk (w : World) (x : Int × Int × Int × Int) :
    Calls Try.prog 8 #[.agg #[.int .i64 x.1, .int .i64 x.2.1, .int .i64 x.2.2.1, .int .i64 x.2.2.2]] w fun e w' => e = .returned (.bool true) ∧ Below w.heap.size w w' := by
  obtain ⟨x1, x2, x3, x4⟩ := x
  simp only
  go_enter Try.func8, Try.ntmps8
  go_wp2_with fail
  generalize hW0 : w.alloc (.cells #[.int .i64 x1, .int .i64 x2, .int .i64 x3, .int .i64 x4] 57) = w0
  refine (awake17 _).mono ?_
  rintro e w1 ⟨rfl, hb⟩
  have ho1 : Ob w0 w.heap.size 57 [.int .i64 x1, .int .i64 x2, .int .i64 x3, .int .i64 x4] := by subst hW0; exact Ob.new w 57 _
  have hsz : w0.heap.size = w.heap.size + 1 := by subst hW0; simp
  have hb0 : Below w.heap.size w w0 := by subst hW0; exact Below.alloc_set
  have ho2 := ho1.below hb (by omega)
  have hb1 : Below w.heap.size w w1 := hb0.trans (hb.mono (by omega))
  have hs1 : w.heap.size + 1 ≤ w1.heap.size := by have := hb.size; omega
  clear hW0 hb hb0 ho1 hsz
  go_upto_region 5 with (fail)
  refine cutW (fun W => RNo w W w1.heap.size [.int .i64 x1, .int .i64 x2, .int .i64 x3, .int .i64 x4]) ⟨?_, ?_, ?_, ?_⟩ ?_
  · exact (ho2.alloc _).alloc _
  · exact (Ob.new w1 73 _).alloc _
  · exact Ob.new2 w1 (.cells #[.slice none 0 0, .slice none 0 0] 73) 58 [.pointer none, .pointer (some ⟨w1.heap.size, 0, none⟩)]
  · exact (hb1.alloc (by omega) _).alloc (by simp; omega) _
  intro W hR0
  clear ho2 hb1
  generalize w1.heap.size = b at *
  go_loopw [16] (fun i wr => ∃ k : Nat, k ≤ 2 ∧ i = .int .i64 k ∧ RNo w wr b [.int .i64 x1, .int .i64 x2, .int .i64 x3, .int .i64 x4]) (fun i _ => 2 - (intOf i).toNat)
  case atStart => exact ⟨0, by omega, rfl, hR0⟩
  case round =>
    clear hR0
    obtain ⟨k, hk, rfl, hR⟩ := hrel
    have hc := hR.ho.cell
    have hc2 := hR.ha.cell
    have HR := Lib.hid hR
    match k, hk with
    | 0, _ =>
      have N0 := Lib.hid (noBk_nil wr)
      clear hR
      go_wp2_with (go_at_call 33; refine (N0.out.held 0 _).mono ?_; rintro e w' ⟨rfl, k2, rfl⟩)
      go_upto_region 8 with (fail)
      refine cutW (fun V => RNo w V b [.int .i64 x1, .int .i64 x2, .int .i64 x3, .int .i64 x4]) (HR.out.drewN _) ?_
      clear hc hc2 HR N0
      intro V hR
      have hc := hR.ho.cell
      have HR := Lib.hid hR
      have N0 := Lib.hid (noBk_nil V)
      clear hR
      go_quiet ((first | (go_at_call 25; exact N0.out.reserve _ _ _ _) | (go_at_call 26; exact N0.out.resize _ _ _) | (go_at_call 27; exact N0.out.settle _ _ _) | (go_at_call 34; exact N0.out.undo _ _ _) | (go_at_call 28; exact N0.out.used _ _) | (go_at_call 35; exact N0.out.realised _ _) | (go_at_call 36; exact N0.out.left _ _)))
      go_wp2_with fail
      go_roundw
      case rel => exact ⟨1, by omega, by go_num, HR.out.drewN _⟩
      case measure => simp [intOf]
    | 1, _ =>
      have N0 := Lib.hid (noBk_none wr b (hR.hs.cell 0))
      clear hR
      go_wp2_with (go_at_call 33; refine (N0.out.held 0 _).mono ?_; rintro e w' ⟨rfl, k2, rfl⟩)
      go_upto_region 8 with (fail)
      refine cutW (fun V => RNo w V b [.int .i64 x1, .int .i64 x2, .int .i64 x3, .int .i64 x4]) (HR.out.drewN _) ?_
      clear hc hc2 HR N0
      intro V hR
      have hc := hR.ho.cell
      have HR := Lib.hid hR
      have N0 := Lib.hid (noBk_none V b (hR.hs.cell 0))
      clear hR
      go_quiet ((first | (go_at_call 25; exact N0.out.reserve _ _ _ _) | (go_at_call 26; exact N0.out.resize _ _ _) | (go_at_call 27; exact N0.out.settle _ _ _) | (go_at_call 34; exact N0.out.undo _ _ _) | (go_at_call 28; exact N0.out.used _ _) | (go_at_call 35; exact N0.out.realised _ _) | (go_at_call 36; exact N0.out.left _ _)))
      go_wp2_with fail
      go_roundw
      case rel => exact ⟨2, by omega, by go_num, HR.out.drewN _⟩
      case measure => simp [intOf]
    | 2, _ =>
      clear hR
      go_wp2
      go_ret
      exact ⟨rfl, HR.out.hb⟩

end Go.Proofs.Yteggpdhkpmkldaa
