import Derived.Test.YteggpdhkpmkldaaQh
import Derived.Test.YteggpdhkpmkldaaLz
import Derived.Deep.CutBlock
namespace Go.Proofs.Yteggpdhkpmkldaa
open Go.RowKit

/-! Of a session that is none. -/
def NoSe (W : World) (v : Value) : Prop := Calls Try.prog 68 #[v] W fun e w' => e = .returned (.bool false) ∧ W = w'
set_option maxHeartbeats 400000 in
theorem zeTake (w : World) (v : Value) (h : NoSe w v) (x : Int) : Calls Try.prog 42 #[v, .int .i64 x] w fun e w' => e = .returned (.int .i64 1) ∧ w = w' := by
  go_enter Try.func42, Try.ntmps42
  go_wp2_with (go_at_call 68; refine h.mono ?_; rintro e w' ⟨rfl, rfl⟩)
  go_ret
  exact ⟨rfl, rfl⟩
set_option maxHeartbeats 400000 in
theorem zeWaiting (w : World) (v : Value) (h : NoSe w v) : Calls Try.prog 45 #[v] w fun e w' => e = .returned (.int .i64 0) ∧ w = w' := by
  go_enter Try.func45, Try.ntmps45
  go_wp2_with (go_at_call 68; refine h.mono ?_; rintro e w' ⟨rfl, rfl⟩)
  go_ret
  exact ⟨rfl, rfl⟩
set_option maxHeartbeats 400000 in
theorem zeTaken (w : World) (v : Value) (h : NoSe w v) : Calls Try.prog 46 #[v] w fun e w' => e = .returned (.int .i64 0) ∧ w = w' := by
  go_enter Try.func46, Try.ntmps46
  go_wp2_with (go_at_call 68; refine h.mono ?_; rintro e w' ⟨rfl, rfl⟩)
  go_ret
  exact ⟨rfl, rfl⟩
set_option maxHeartbeats 400000 in
theorem zeSent (w : World) (v : Value) (h : NoSe w v) : Calls Try.prog 48 #[v] w fun e w' => e = .returned (.int .i64 0) ∧ w = w' := by
  go_enter Try.func48, Try.ntmps48
  go_wp2_with (go_at_call 68; refine h.mono ?_; rintro e w' ⟨rfl, rfl⟩)
  go_ret
  exact ⟨rfl, rfl⟩
set_option maxHeartbeats 400000 in
theorem zeFaults (w : World) (v : Value) (h : NoSe w v) : Calls Try.prog 49 #[v] w fun e w' => e = .returned (.int .i64 0) ∧ w = w' := by
  go_enter Try.func49, Try.ntmps49
  go_wp2_with (go_at_call 68; refine h.mono ?_; rintro e w' ⟨rfl, rfl⟩)
  go_ret
  exact ⟨rfl, rfl⟩
set_option maxHeartbeats 400000 in
theorem zeHealthy (w : World) (v : Value) (h : NoSe w v) : Calls Try.prog 50 #[v] w fun e w' => e = .returned (.bool false) ∧ w = w' := by
  go_enter Try.func50, Try.ntmps50
  go_wp2_with (go_at_call 68; refine h.mono ?_; rintro e w' ⟨rfl, rfl⟩)
  go_ret
  exact ⟨rfl, rfl⟩
set_option maxHeartbeats 400000 in
theorem zeFault (w : World) (v : Value) (h : NoSe w v) : Calls Try.prog 51 #[v] w fun e w' => (∃ u, e = .returned u) ∧ w = w' := by
  go_enter Try.func51, Try.ntmps51
  go_wp2_with (go_at_call 68; refine h.mono ?_; rintro e w' ⟨rfl, rfl⟩)
  go_end0
  exact ⟨⟨_, rfl⟩, rfl⟩
set_option maxHeartbeats 400000 in
theorem zeDown (w : World) (v : Value) (h : NoSe w v) : Calls Try.prog 43 #[v] w fun e w' => (∃ u, e = .returned u) ∧ w = w' := by
  go_enter Try.func43, Try.ntmps43
  go_wp2_with (go_at_call 68; refine h.mono ?_; rintro e w' ⟨rfl, rfl⟩)
  go_end0
  exact ⟨⟨_, rfl⟩, rfl⟩
set_option maxHeartbeats 400000 in
theorem zeUp (w : World) (v : Value) (h : NoSe w v) : Calls Try.prog 44 #[v] w fun e w' => (∃ u, e = .returned u) ∧ w = w' := by
  go_enter Try.func44, Try.ntmps44
  go_wp2_with (go_at_call 68; refine h.mono ?_; rintro e w' ⟨rfl, rfl⟩)
  go_end0
  exact ⟨⟨_, rfl⟩, rfl⟩
set_option maxHeartbeats 800000 in
set_option maxRecDepth 100000 in
theorem zeSend (w : World) (v : Value) (o : Od) (h : ∀ W, Mods (fun _ => False) w W → NoSe W v) : Calls Try.prog 40 #[v, o.agg] w fun e w' => e = .returned (.tuple #[.int .i64 0, .int .i64 1]) ∧ Below w.heap.size w w' := by
  obtain ⟨ok, os, oi, oy, od, oq, op⟩ := o
  show Calls Try.prog 40 #[v, .agg #[.int .i64 ok, .int .i64 os, .string oi, .string oy, .int .i64 od, .int .i64 oq, .int .i64 op]] w _
  have H := Lib.hid h
  clear h
  go_enter Try.func40, Try.ntmps40
  go_wp2_with (go_at_call 68; refine (H.out _ ((Mods.refl (fun _ => False) w).alloc (.cells #[.int .i64 ok, .int .i64 1, .string oi, .string oy, .int .i64 od, .int .i64 oq, .int .i64 op] 85))).mono ?_; rintro e w' ⟨rfl, rfl⟩)
  go_ret2
  exact ⟨rfl, Below.alloc_set⟩
set_option maxHeartbeats 800000 in
set_option maxRecDepth 100000 in
theorem zePop (w : World) (v : Value) (h : ∀ W, Mods (fun _ => False) w W → NoSe W v) : Calls Try.prog 41 #[v] w fun e w' => e = .returned (.tuple #[.agg #[.int .i64 0, .int .i64 0, .string ⟨#[]⟩, .string ⟨#[]⟩, .int .i64 0, .int .i64 0, .int .i64 0], .int .i64 1]) ∧ Below w.heap.size w w' := by
  have H := Lib.hid h
  clear h
  go_enter Try.func41, Try.ntmps41
  go_wp2_with (go_at_call 68; refine (H.out _ ((Mods.refl (fun _ => False) w).alloc (.cells #[.int .i64 0, .int .i64 0, .string ⟨#[]⟩, .string ⟨#[]⟩, .int .i64 0, .int .i64 0, .int .i64 0] 85))).mono ?_; rintro e w' ⟨rfl, rfl⟩)
  refine bodyPost_ret (v := .tuple #[.agg #[.int .i64 0, .int .i64 0, .string ⟨#[]⟩, .string ⟨#[]⟩, .int .i64 0, .int .i64 0, .int .i64 0], .int .i64 1]) (by simp [results, Try.results41, go_sem]) rfl ⟨rfl, ?_⟩
  repeat (refine Below.setCell ?_ (by simp) _)
  exact Below.alloc_set

end Go.Proofs.Yteggpdhkpmkldaa
