import Derived.Test.YteggpdhkpmkldaaQm
namespace Go.Proofs.Yteggpdhkpmkldaa
open Go.RowKit

set_option maxHeartbeats 1600000 in
set_option maxRecDepth 100000 in
theorem sePop_empty (w : World) (sb rb g R first : Nat) (arr : List Od) (sent taken faults : Int) (down : Bool) (h : SsAt w sb rb g R first [] arr sent taken faults down) :
    Calls Try.prog 41 #[.pointer (some ⟨sb, 0, none⟩)] w fun e w' => e = .returned (.tuple #[.agg #[.int .i64 0, .int .i64 0, .string ⟨#[]⟩, .string ⟨#[]⟩, .int .i64 0, .int .i64 0, .int .i64 0], .int .i64 50]) ∧ Below w.heap.size w w' := by
  have hN := Ob.new w 85 [.int .i64 0, .int .i64 0, .string ⟨#[]⟩, .string ⟨#[]⟩, .int .i64 0, .int .i64 0, .int .i64 0]
  have H := Lib.hid h
  clear h
  go_enter Try.func41, Try.ntmps41
  go_upto_region 1 with (fail)
  refine cutW (fun W => SsAt W sb rb g R first [] arr sent taken faults down ∧ Ob W w.heap.size 85 [.int .i64 0, .int .i64 0, .string ⟨#[]⟩, .string ⟨#[]⟩, .int .i64 0, .int .i64 0, .int .i64 0] ∧ Below w.heap.size w W) ⟨H.out.below Below.alloc_set, hN, Below.alloc_set⟩ ?_
  clear hN H
  rintro W ⟨h, hN, hB⟩
  have hc := h.hse.ho.cell
  have HP := Lib.hid (roPop_empty W rb g R first arr h.hro)
  have HN := Lib.hid hN
  have HB := Lib.hid hB
  clear h hN hB
  go_wp2_with (first
    | (go_at_call 68; refine (seIs_some _ sb rb (hc 0)).mono ?_; rintro e w' ⟨rfl, rfl⟩)
    | (go_at_call 71; refine HP.out.mono ?_; rintro e w3 ⟨rfl, hb3⟩; have hn3 := HN.out.below hb3 HN.out.lt; have hcn := hn3.cell; have hzn := hn3.frozen; have hln := hn3.lt; have HB3 := Lib.hid (HB.out.trans (hb3.mono HB.out.size)); clear hn3 hb3))
  refine bodyPost_ret (v := .tuple #[.agg #[.int .i64 0, .int .i64 0, .string ⟨#[]⟩, .string ⟨#[]⟩, .int .i64 0, .int .i64 0, .int .i64 0], .int .i64 50]) (by simp [results, Try.results41, go_sem, hcn]) rfl ⟨rfl, ?_⟩
  repeat (refine Below.setCell ?_ (by simp) _)
  exact HB3.out

end Go.Proofs.Yteggpdhkpmkldaa
