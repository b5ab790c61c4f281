import Derived.Test.YteggpdhkpmkldaaQe
namespace Go.Proofs.Yteggpdhkpmkldaa
open Go.RowKit

theorem roRight (w : World) (x : Od) : Calls Try.prog 69 #[x.agg] w fun e w' => e = .returned (.bool (roB x)) ∧ Below w.heap.size w w' := by
  obtain ⟨k, s, i, y, d, q, p⟩ := x
  by_cases h1 : k = 1
  · subst h1; exact roRight_1 w s i y d q p
  by_cases h2 : k = 2
  · subst h2; exact roRight_2 w s i y d q p
  by_cases h3 : k = 3
  · subst h3; exact roRight_3 w s i y d q p
  exact roRight_0 w k s i y d q p h1 h2 h3

set_option maxHeartbeats 800000 in
set_option maxRecDepth 100000 in
theorem roPush_full (w : World) (b g R first : Nat) (xs arr : List Od) (x : Od) (h : RoAt w b g R first xs arr) (hlt : xs.length = R) :
    Calls Try.prog 70 #[.pointer (some ⟨b, 0, none⟩), x.agg] w fun e w' => e = .returned (.int .i64 40) ∧ Below w.heap.size w w' := by
  have hR1 := h.hR.1
  obtain ⟨xk, xs', xi, xy, xd, xq, xp⟩ := x
  show Calls Try.prog 70 #[.pointer (some ⟨b, 0, none⟩), .agg #[.int .i64 xk, .int .i64 xs', .string xi, .string xy, .int .i64 xd, .int .i64 xq, .int .i64 xp]] w _
  have HO := Lib.hid h.ho
  clear h
  rw [hlt] at HO
  clear hlt
  go_enter Try.func70, Try.ntmps70
  go_upto_region 1 with (fail)
  refine cutW (fun W => Ob W b 135 [.slice (some ⟨g, 0, none⟩) R R, .int .i64 first, .int .i64 R] ∧ Below w.heap.size w W) ⟨HO.out.alloc _, Below.alloc_set⟩ ?_
  clear HO
  rintro W ⟨ho, hB⟩
  have hc := ho.cell
  have HB := Lib.hid hB
  clear ho hB
  go_wp2_with (go_at_call 80; refine (roIs_some _ b g R (hc 0) hR1).mono ?_; rintro e w' ⟨rfl, rfl⟩)
  go_quiet (fail)
  go_wp2_with fail
  go_ret
  exact ⟨rfl, Below.drewN HB.out _⟩

/-- A session and its ring. -/
structure SsAt (w : World) (sb rb g R first : Nat) (xs arr : List Od) (sent taken faults : Int) (down : Bool) : Prop where
  hse : SeAt w sb rb sent taken faults down
  hro : RoAt w rb g R first xs arr
  n1 : sb ≠ rb
  n2 : sb ≠ g
theorem SsAt.mods {w w' : World} {sb rb g R first : Nat} {xs arr : List Od} {sent taken faults : Int} {down : Bool} {S : Nat → Prop} (h : SsAt w sb rb g R first xs arr sent taken faults down) (hm : Mods S w w') (h1 : ¬ S sb) (h2 : ¬ S rb) (h3 : ¬ S g) : SsAt w' sb rb g R first xs arr sent taken faults down :=
  ⟨⟨h.hse.ho.mods hm h1⟩, h.hro.mods hm h2 h3, h.n1, h.n2⟩
theorem SsAt.below {w w' : World} {sb rb g R first : Nat} {xs arr : List Od} {sent taken faults : Int} {down : Bool} (h : SsAt w sb rb g R first xs arr sent taken faults down) (hb : Below w.heap.size w w') : SsAt w' sb rb g R first xs arr sent taken faults down :=
  h.mods (Below.mods_ hb (fun _ => False)) id id id

set_option maxHeartbeats 1600000 in
set_option maxRecDepth 100000 in
theorem sePop_some (w : World) (sb rb g R first : Nat) (x : Od) (xs arr : List Od) (sent taken faults : Int) (down : Bool) (h : SsAt w sb rb g R first (x :: xs) arr sent taken faults down) :
    Calls Try.prog 41 #[.pointer (some ⟨sb, 0, none⟩)] w fun e w' => e = .returned (.tuple #[x.agg, .int .i64 0]) ∧ ∃ first' arr', SsAt w' sb rb g R first' xs arr' sent taken faults down ∧ Mods (fun k => k = rb ∨ k = g) w w' := by
  obtain ⟨X, hX⟩ : ∃ X, x = X := ⟨_, rfl⟩
  obtain ⟨xk, xq, xi, xy, xd, xm, xp⟩ := X
  have hag : x.agg = .agg #[.int .i64 xk, .int .i64 xq, .string xi, .string xy, .int .i64 xd, .int .i64 xm, .int .i64 xp] := by rw [hX]; rfl
  rw [hag]
  have Hag := Lib.hid hag
  have hsl := h.hse.ho.lt
  have hrl := h.hro.ho.lt
  have hgl := h.hro.hg.lt
  have hn1 := h.n1
  have hn2 := h.n2
  have hN := Ob.new w 85 [.int .i64 0, .int .i64 0, .string ⟨#[]⟩, .string ⟨#[]⟩, .int .i64 0, .int .i64 0, .int .i64 0]
  have H := Lib.hid h
  clear hX hag h
  go_enter Try.func41, Try.ntmps41
  go_upto_region 1 with (fail)
  refine cutW (fun W => SsAt W sb rb g R first (x :: xs) arr sent taken faults down ∧ Ob W w.heap.size 85 [.int .i64 0, .int .i64 0, .string ⟨#[]⟩, .string ⟨#[]⟩, .int .i64 0, .int .i64 0, .int .i64 0] ∧ Mods (fun k => k = rb ∨ k = g) w W) ⟨H.out.below Below.alloc_set, hN, (Mods.refl _ w).alloc _⟩ ?_
  clear hN H
  rintro W ⟨h, hN, hM⟩
  have hc := h.hse.ho.cell
  have hpop := roPop_some W rb g R first x xs arr h.hro
  rw [Hag.out] at hpop
  have HP := Lib.hid hpop
  have HN := Lib.hid hN
  have HM := Lib.hid hM
  have HS := Lib.hid h.hse.ho
  clear hpop h hN hM
  go_wp2_with (first
    | (go_at_call 68; refine (seIs_some _ sb rb (hc 0)).mono ?_; rintro e w' ⟨rfl, rfl⟩)
    | (go_at_call 71; refine HP.out.mono ?_; rintro e w3 ⟨rfl, f', a', hr3, hm3⟩; have hn3 := HN.out.mods hm3 (by omega); have hcn := hn3.cell; have hzn := hn3.frozen; have hln := hn3.lt; have HR3 := Lib.hid hr3; have HM3 := Lib.hid hm3; clear hr3 hm3 hn3))
  refine bodyPost_ret (v := .tuple #[.agg #[.int .i64 xk, .int .i64 xq, .string xi, .string xy, .int .i64 xd, .int .i64 xm, .int .i64 xp], .int .i64 0]) (by simp [results, Try.results41, go_sem, hcn]) rfl ⟨rfl, f', a', ?_⟩
  have hu2 := (((((((Upd.refl w.heap.size w3).set 0 (.int .i64 xk)).set 1 (.int .i64 xq)).set 2 (.string xi)).set 3 (.string xy)).set 4 (.int .i64 xd)).set 5 (.int .i64 xm)).set 6 (.int .i64 xp)
  refine ⟨⟨⟨(HS.out.mods HM3.out (by omega)).upd hu2 (by omega)⟩, ⟨HR3.out.ho.upd hu2 (by omega), HR3.out.hg.upd hu2 (by omega), HR3.out.hl, HR3.out.hR, HR3.out.hf, HR3.out.hx, HR3.out.hat, HR3.out.hne⟩, hn1, hn2⟩, ?_⟩
  exact (((((((HM.out.trans (HM3.out)).setCell (⟨w.heap.size, 0, none⟩ : Addr) (.inr (Nat.le_refl _)) _).setCell (⟨w.heap.size, 1, none⟩ : Addr) (.inr (Nat.le_refl _)) _).setCell (⟨w.heap.size, 2, none⟩ : Addr) (.inr (Nat.le_refl _)) _).setCell (⟨w.heap.size, 3, none⟩ : Addr) (.inr (Nat.le_refl _)) _).setCell (⟨w.heap.size, 4, none⟩ : Addr) (.inr (Nat.le_refl _)) _).setCell (⟨w.heap.size, 5, none⟩ : Addr) (.inr (Nat.le_refl _)) _).setCell (⟨w.heap.size, 6, none⟩ : Addr) (.inr (Nat.le_refl _)) _

end Go.Proofs.Yteggpdhkpmkldaa
