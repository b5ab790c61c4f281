import Derived.Test.YteggpdhkpmkldaaQl
namespace Go.Proofs.Yteggpdhkpmkldaa
open Go.RowKit

set_option maxHeartbeats 1600000 in
set_option maxRecDepth 100000 in
theorem roPeek_empty (w : World) (b g R first : Nat) (arr : List Od) (h : RoAt w b g R first [] arr) :
    Calls Try.prog 82 #[.pointer (some ⟨b, 0, none⟩)] w fun e w' => e = .returned (.tuple #[.agg #[.int .i64 0, .int .i64 0, .string ⟨#[]⟩, .string ⟨#[]⟩, .int .i64 0, .int .i64 0, .int .i64 0], .int .i64 50]) ∧ Below w.heap.size w w' := by
  have hR1 := h.hR.1
  have HO : Hid (Ob w b 135 [.slice (some ⟨g, 0, none⟩) R R, .int .i64 first, .int .i64 0]) := Lib.hid h.ho
  clear h
  have hN := Ob.new w 85 [.int .i64 0, .int .i64 0, .string ⟨#[]⟩, .string ⟨#[]⟩, .int .i64 0, .int .i64 0, .int .i64 0]
  have hN2 := Ob.new2 w (.cells #[.int .i64 0, .int .i64 0, .string ⟨#[]⟩, .string ⟨#[]⟩, .int .i64 0, .int .i64 0, .int .i64 0] 85) 85 [.int .i64 0, .int .i64 0, .string ⟨#[]⟩, .string ⟨#[]⟩, .int .i64 0, .int .i64 0, .int .i64 0]
  go_enter Try.func82, Try.ntmps82
  go_upto_region 2 with (fail)
  refine cutW (fun W => Ob W b 135 [.slice (some ⟨g, 0, none⟩) R R, .int .i64 first, .int .i64 0] ∧ Ob W w.heap.size 85 [.int .i64 0, .int .i64 0, .string ⟨#[]⟩, .string ⟨#[]⟩, .int .i64 0, .int .i64 0, .int .i64 0] ∧ Ob W (w.heap.size + 1) 85 [.int .i64 0, .int .i64 0, .string ⟨#[]⟩, .string ⟨#[]⟩, .int .i64 0, .int .i64 0, .int .i64 0] ∧ Below w.heap.size w W) ⟨(HO.out.alloc _).alloc _, hN.alloc _, hN2, Below.alloc_set.alloc (by simp) _⟩ ?_
  clear hN hN2 HO
  rintro W ⟨ho, hN, hN2, hB⟩
  have hc := ho.cell
  have hn := hN.cell
  have hz := hN.frozen
  have hl := hN.lt
  have hn2 := hN2.cell
  have HB := Lib.hid hB
  clear ho hN hN2 hB
  go_wp2_with (go_at_call 80; refine (roIs_some _ b g R (hc 0) hR1).mono ?_; rintro e w' ⟨rfl, rfl⟩)
  refine bodyPost_ret (v := .tuple #[.agg #[.int .i64 0, .int .i64 0, .string ⟨#[]⟩, .string ⟨#[]⟩, .int .i64 0, .int .i64 0, .int .i64 0], .int .i64 50]) (by simp [results, Try.results82, go_sem, hn]) rfl ⟨rfl, ?_⟩
  repeat (refine Below.setCell ?_ (by simp) _)
  exact HB.out

set_option maxHeartbeats 1600000 in
set_option maxRecDepth 100000 in
theorem roPop_empty (w : World) (b g R first : Nat) (arr : List Od) (h : RoAt w b g R first [] arr) :
    Calls Try.prog 71 #[.pointer (some ⟨b, 0, none⟩)] w fun e w' => e = .returned (.tuple #[.agg #[.int .i64 0, .int .i64 0, .string ⟨#[]⟩, .string ⟨#[]⟩, .int .i64 0, .int .i64 0, .int .i64 0], .int .i64 50]) ∧ Below w.heap.size w w' := by
  have hN := Ob.new w 85 [.int .i64 0, .int .i64 0, .string ⟨#[]⟩, .string ⟨#[]⟩, .int .i64 0, .int .i64 0, .int .i64 0]
  have H := Lib.hid h
  clear h
  go_enter Try.func71, Try.ntmps71
  go_upto_region 1 with (fail)
  refine cutW (fun W => RoAt W b g R first [] arr ∧ Ob W w.heap.size 85 [.int .i64 0, .int .i64 0, .string ⟨#[]⟩, .string ⟨#[]⟩, .int .i64 0, .int .i64 0, .int .i64 0] ∧ Below w.heap.size w W) ⟨H.out.mods ((Mods.refl (fun _ => False) w).alloc _) id id, hN, Below.alloc_set⟩ ?_
  clear hN H
  rintro W ⟨h, hN, hB⟩
  have HP := Lib.hid (roPeek_empty W b g R first arr h)
  have HN := Lib.hid hN
  have HB := Lib.hid hB
  clear h hN hB
  go_upto_region 2 with (go_at_call 82; refine HP.out.mono ?_; rintro e w3 ⟨rfl, hb3⟩)
  have hX := Ob.new w3 85 [.int .i64 0, .int .i64 0, .string ⟨#[]⟩, .string ⟨#[]⟩, .int .i64 0, .int .i64 0, .int .i64 0]
  refine cutW (fun V => Ob V w.heap.size 85 [.int .i64 0, .int .i64 0, .string ⟨#[]⟩, .string ⟨#[]⟩, .int .i64 0, .int .i64 0, .int .i64 0] ∧ Ob V w3.heap.size 85 [.int .i64 0, .int .i64 0, .string ⟨#[]⟩, .string ⟨#[]⟩, .int .i64 0, .int .i64 0, .int .i64 0] ∧ Below w.heap.size w V) ⟨(HN.out.below hb3 HN.out.lt).alloc _, hX, (HB.out.trans (hb3.mono HB.out.size)).alloc (Nat.le_trans HB.out.size hb3.size) _⟩ ?_
  clear HN HB HP hX hb3
  generalize w3.heap.size = N4 at *
  rintro V ⟨hN, hX, hB⟩
  have hn := hN.cell
  have hz := hN.frozen
  have hl := hN.lt
  have hx := hX.cell
  have HB := Lib.hid hB
  clear hN hX hB
  go_wp2_with fail
  refine bodyPost_ret (v := .tuple #[.agg #[.int .i64 0, .int .i64 0, .string ⟨#[]⟩, .string ⟨#[]⟩, .int .i64 0, .int .i64 0, .int .i64 0], .int .i64 50]) (by simp [results, Try.results71, go_sem, hn]) rfl ⟨rfl, ?_⟩
  repeat (refine Below.setCell ?_ (by simp) _)
  exact HB.out

end Go.Proofs.Yteggpdhkpmkldaa
