import Derived.Test.YteggpdhkpmkldaaQf
namespace Go.Proofs.Yteggpdhkpmkldaa
open Go.RowKit

/-- Send's end. -/
def SendP (w : World) (sb rb g R first : Nat) (xs arr : List Od) (sent taken faults : Int) (down : Bool) (o : Od) (e : Ending) (w' : World) : Prop :=
  (e = .returned (.tuple #[.int .i64 0, .int .i64 2]) ∧ roB { o with sq := 1 } = false ∧ SsAt w' sb rb g R first xs arr sent taken faults down ∧ Below w.heap.size w w') ∨
  (e = .returned (.tuple #[.int .i64 0, .int .i64 222]) ∧ roB { o with sq := 1 } = true ∧ down = true ∧ SsAt w' sb rb g R first xs arr sent taken faults down ∧ Below w.heap.size w w') ∨
  (e = .returned (.tuple #[.int .i64 0, .int .i64 40]) ∧ roB { o with sq := 1 } = true ∧ down = false ∧ xs.length = R ∧ SsAt w' sb rb g R first xs arr sent taken faults down ∧ Below w.heap.size w w') ∨
  (e = .returned (.tuple #[.int .i64 (sent + 1), .int .i64 0]) ∧ roB { o with sq := 1 } = true ∧ down = false ∧ xs.length < R ∧ ∃ arr', SsAt w' sb rb g R first (xs ++ [{ o with sq := sent + 1 }]) arr' (sent + 1) taken faults down ∧ Mods (fun k => k = sb ∨ k = rb ∨ k = g) w w')

set_option maxHeartbeats 3200000 in
set_option maxRecDepth 100000 in
theorem seSend (w : World) (sb rb g R first : Nat) (xs arr : List Od) (sent taken faults : Int) (down : Bool) (h : SsAt w sb rb g R first xs arr sent taken faults down) (hs0 : 0 ≤ sent) (hs9 : sent ≤ 1099511627776) (o : Od) :
    Calls Try.prog 40 #[.pointer (some ⟨sb, 0, none⟩), o.agg] w fun e w' => SendP w sb rb g R first xs arr sent taken faults down o e w' := by
  obtain ⟨ok, os, oi, oy, od, oq, op⟩ := o
  show Calls Try.prog 40 #[.pointer (some ⟨sb, 0, none⟩), .agg #[.int .i64 ok, .int .i64 os, .string oi, .string oy, .int .i64 od, .int .i64 oq, .int .i64 op]] w _
  obtain ⟨B, hB⟩ : ∃ B, roB ⟨ok, 1, oi, oy, od, oq, op⟩ = B := ⟨_, rfl⟩
  have hrr := fun W => roRight W ⟨ok, 1, oi, oy, od, oq, op⟩
  rw [hB] at hrr
  have HBq := Lib.hid hB
  have HRR : Hid (∀ W, Calls Try.prog 69 #[.agg #[.int .i64 ok, .int .i64 1, .string oi, .string oy, .int .i64 od, .int .i64 oq, .int .i64 op]] W fun e w' => e = .returned (.bool B) ∧ Below W.heap.size W w') := Lib.hid hrr
  have hw1 : IntKind.i64.wrap (sent + 1) = sent + 1 := by rw [IntWalk.i64_in _ (by omega)]
  have hsl := h.hse.ho.lt
  have hrl := h.hro.ho.lt
  have hgl := h.hro.hg.lt
  have hn1 := h.n1
  have hn2 := h.n2
  have hx9 := h.hro.hx
  have hN := Ob.new w 85 [.int .i64 ok, .int .i64 os, .string oi, .string oy, .int .i64 od, .int .i64 oq, .int .i64 op]
  have hz := hN.frozen
  have hcn := hN.cell
  have H := Lib.hid h
  have HN := Lib.hid hN
  clear hB hrr h hN
  go_enter Try.func40, Try.ntmps40
  go_upto_region 2 with (fail)
  refine cutW (fun W => SsAt W sb rb g R first xs arr sent taken faults down ∧ Ob W w.heap.size 85 [.int .i64 ok, .int .i64 1, .string oi, .string oy, .int .i64 od, .int .i64 oq, .int .i64 op] ∧ Below w.heap.size w W) ⟨H.out.below Below.alloc_set, Ob.new w 85 [.int .i64 ok, .int .i64 1, .string oi, .string oy, .int .i64 od, .int .i64 oq, .int .i64 op], Below.alloc_set⟩ ?_
  clear H HN hz hcn
  rintro W ⟨h, hN, hB⟩
  have hc := h.hse.ho.cell
  have hcn := hN.cell
  have H := Lib.hid h
  have HN := Lib.hid hN
  have HB := Lib.hid hB
  clear h hN hB
  cases B with
  | false =>
    go_wp2_with (first
      | (go_at_call 68; refine (seIs_some _ sb rb (hc 0)).mono ?_; rintro e w' ⟨rfl, rfl⟩)
      | (go_at_call 69; refine (HRR.out _).mono ?_; rintro e w3 ⟨rfl, hb3⟩))
    go_ret2
    exact Or.inl ⟨rfl, HBq.out, H.out.below hb3, HB.out.trans (hb3.mono HB.out.size)⟩
  | true =>
  go_upto_region 6 with (first
    | (go_at_call 68; refine (seIs_some _ sb rb (hc 0)).mono ?_; rintro e w' ⟨rfl, rfl⟩)
    | (go_at_call 69; refine (HRR.out _).mono ?_; rintro e w3 ⟨rfl, hb3⟩))
  refine cutW (fun W => SsAt W sb rb g R first xs arr sent taken faults down ∧ Ob W w.heap.size 85 [.int .i64 ok, .int .i64 1, .string oi, .string oy, .int .i64 od, .int .i64 oq, .int .i64 op] ∧ Below w.heap.size w W) ⟨H.out.below hb3, HN.out.below hb3 HN.out.lt, HB.out.trans (hb3.mono HB.out.size)⟩ ?_
  clear H HN HB hc hcn hb3
  rintro W4 ⟨h, hN, hB⟩
  have hc := h.hse.ho.cell
  have hcn := hN.cell
  have hzn := hN.frozen
  have hln := hN.lt
  have H := Lib.hid h
  have HN := Lib.hid hN
  have HB := Lib.hid hB
  clear h hN hB
  cases down with
  | true =>
    go_wp2_with fail
    go_ret2
    exact Or.inr (.inl ⟨rfl, HBq.out, rfl, H.out, HB.out⟩)
  | false =>
  go_upto_region 9 with (fail)
  refine cutW (fun W => SsAt W sb rb g R first xs arr sent taken faults false ∧ Ob W w.heap.size 85 [.int .i64 ok, .int .i64 (sent + 1), .string oi, .string oy, .int .i64 od, .int .i64 oq, .int .i64 op] ∧ Below w.heap.size w W) ⟨H.out.mods ((Mods.refl (fun k => k = w.heap.size) W4).setCell (⟨w.heap.size, 1, none⟩ : Addr) (.inl rfl) _) (by omega) (by omega) (by omega), Ob.set HN.out 1 (.int .i64 (sent + 1)), HB.out.setCell (by simp) _⟩ ?_
  clear H HN HB hc hcn hzn hln
  rintro W5 ⟨h, hN, hB⟩
  have hc := h.hse.ho.cell
  have hcn := hN.cell
  have hdr := h.mods ((Mods.refl (fun _ => False) W5).drew) id id id
  have H := Lib.hid hdr
  have HB := Lib.hid hB
  clear h hN hB hdr
  by_cases hfull : xs.length = R
  · have hp : Calls Try.prog 70 #[.pointer (some ⟨rb, 0, none⟩), .agg #[.int .i64 ok, .int .i64 (sent + 1), .string oi, .string oy, .int .i64 od, .int .i64 oq, .int .i64 op]] W5.drew fun e w' => e = .returned (.int .i64 40) ∧ Below W5.drew.heap.size W5.drew w' := roPush_full W5.drew rb g R first xs arr ⟨ok, sent + 1, oi, oy, od, oq, op⟩ H.out.hro hfull
    have HP := Lib.hid hp
    have HFu := Lib.hid hfull
    clear hp hfull
    refine wp_region_tail 6 (by kernel_rfl) (by kernel_rfl) ?_
    simp only [List.take_succ_cons, List.take_zero, List.drop_succ_cons, List.drop_zero]
    repeat (go_big_quiet_step (fail))
    refine wpQuiet_nil ?_
    go_wp2_with (go_at_call 70; refine HP.out.mono ?_; rintro e w6 ⟨rfl, hb6⟩)
    go_ret2
    exact Or.inr (.inr (.inl ⟨rfl, HBq.out, rfl, HFu.out, H.out.below hb6, (Below.drewN HB.out 1).trans (hb6.mono HB.out.size)⟩))
  · have hlt : xs.length < R := by omega
    have hp : Calls Try.prog 70 #[.pointer (some ⟨rb, 0, none⟩), .agg #[.int .i64 ok, .int .i64 (sent + 1), .string oi, .string oy, .int .i64 od, .int .i64 oq, .int .i64 op]] W5.drew fun e w' => e = .returned (.int .i64 0) ∧ ∃ arr', RoAt w' rb g R first (xs ++ [⟨ok, sent + 1, oi, oy, od, oq, op⟩]) arr' ∧ Mods (fun k => k = rb ∨ k = g) W5.drew w' := roPush_ok W5.drew rb g R first xs arr ⟨ok, sent + 1, oi, oy, od, oq, op⟩ H.out.hro hlt
    have HP := Lib.hid hp
    have HLt := Lib.hid hlt
    clear hp hfull hlt
    refine wp_region_tail 6 (by kernel_rfl) (by kernel_rfl) ?_
    simp only [List.take_succ_cons, List.take_zero, List.drop_succ_cons, List.drop_zero]
    repeat (go_big_quiet_step (fail))
    refine wpQuiet_nil ?_
    go_wp2_with (go_at_call 70; refine HP.out.mono ?_; rintro e w6 ⟨rfl, arr', hr6, hm6⟩; have hse6 := H.out.hse.ho.mods hm6 (by omega); have hc6 := hse6.cell; have hz6 := hse6.frozen; have hl6 := hse6.lt; have HR6 := Lib.hid hr6; have HM6 := Lib.hid hm6; have HSE := Lib.hid hse6; clear hr6 hm6 hse6)
    go_ret2
    have hu := (Upd.refl sb w6).set 1 (.int .i64 (sent + 1))
    have hM7 : Mods (fun k => k = sb ∨ k = rb ∨ k = g) w w6 := ((Below.mods_ HB.out _).drew).trans (HM6.out.mono (fun k _ hk => .inr hk))
    exact Or.inr (.inr (.inr ⟨rfl, HBq.out, rfl, HLt.out, arr', ⟨⟨Ob.set HSE.out 1 (.int .i64 (sent + 1))⟩, ⟨HR6.out.ho.upd hu (Ne.symm hn1), HR6.out.hg.upd hu (Ne.symm hn2), HR6.out.hl, HR6.out.hR, HR6.out.hf, HR6.out.hx, HR6.out.hat, HR6.out.hne⟩, hn1, hn2⟩, hM7.setCell (⟨sb, 1, none⟩ : Addr) (.inl (.inl rfl)) _⟩))

end Go.Proofs.Yteggpdhkpmkldaa
