import Derived.Test.YtjhlaifflhjafaaXi
namespace Go.Proofs.Ytjhlaifflhjafaa
open Go.RowKit

/-- The child that New did not make. -/
def zch : Ch := ⟨⟨#[]⟩, ⟨#[]⟩, 0, 0, 0, 0, 0, 0, 0⟩
/-- v is no child. -/
def NoCh (W : World) (v : Value) : Prop := Calls Try.prog 64 #[v] W fun e w' => e = .returned (.bool false) ∧ W = w'
theorem noCh_nil (W : World) : NoCh W (.pointer none) := cIs_nil W
theorem noCh_none {W : World} {b : Nat} (h : CAt W b zch) : NoCh W (.pointer (some ⟨b, 0, none⟩)) := cIs_any W b 0 false (by have := h.cell 3; exact this) rfl
/-- The two. -/
def NoV (b : Nat) (v : Value) : Prop := v = .pointer none ∨ v = .pointer (some ⟨b, 0, none⟩)
theorem NoV.no {W : World} {b : Nat} {v : Value} (h : NoV b v) (hb : CAt W b zch) : NoCh W v := by
  rcases h with rfl | rfl
  · exact noCh_nil W
  · exact noCh_none hb
set_option maxHeartbeats 400000 in
theorem zNow (w : World) (v : Value) (h : NoCh w v) (x0 : Int) : Calls Try.prog 83 #[v, .int .i64 x0] w fun e w' => e = .returned (.int .i64 1) ∧ w = w' := by
  go_enter Try.func83, Try.ntmps83
  go_wp2_with (go_at_call 64; refine (h).mono ?_; rintro e w' ⟨rfl, rfl⟩)
  go_ret
  exact ⟨rfl, rfl⟩
set_option maxHeartbeats 400000 in
theorem zAck (w : World) (v : Value) (h : NoCh w v) : Calls Try.prog 55 #[v] w fun e w' => e = .returned (.int .i64 1) ∧ w = w' := by
  go_enter Try.func55, Try.ntmps55
  go_wp2_with (go_at_call 83; refine (zNow w v h 1).mono ?_; rintro e w' ⟨rfl, rfl⟩)
  go_ret
  exact ⟨rfl, rfl⟩
set_option maxHeartbeats 400000 in
theorem zCanceled (w : World) (v : Value) (h : NoCh w v) : Calls Try.prog 59 #[v] w fun e w' => e = .returned (.int .i64 1) ∧ w = w' := by
  go_enter Try.func59, Try.ntmps59
  go_wp2_with (go_at_call 83; refine (zNow w v h 2).mono ?_; rintro e w' ⟨rfl, rfl⟩)
  go_ret
  exact ⟨rfl, rfl⟩
set_option maxHeartbeats 400000 in
theorem zReplaced (w : World) (v : Value) (h : NoCh w v) : Calls Try.prog 60 #[v] w fun e w' => e = .returned (.int .i64 1) ∧ w = w' := by
  go_enter Try.func60, Try.ntmps60
  go_wp2_with (go_at_call 83; refine (zNow w v h 3).mono ?_; rintro e w' ⟨rfl, rfl⟩)
  go_ret
  exact ⟨rfl, rfl⟩
set_option maxHeartbeats 400000 in
theorem zRejected (w : World) (v : Value) (h : NoCh w v) : Calls Try.prog 61 #[v] w fun e w' => e = .returned (.int .i64 1) ∧ w = w' := by
  go_enter Try.func61, Try.ntmps61
  go_wp2_with (go_at_call 83; refine (zNow w v h 4).mono ?_; rintro e w' ⟨rfl, rfl⟩)
  go_ret
  exact ⟨rfl, rfl⟩
set_option maxHeartbeats 400000 in
theorem zRefused (w : World) (v : Value) (h : NoCh w v) : Calls Try.prog 57 #[v] w fun e w' => e = .returned (.int .i64 1) ∧ w = w' := by
  go_enter Try.func57, Try.ntmps57
  go_wp2_with (go_at_call 83; refine (zNow w v h 8).mono ?_; rintro e w' ⟨rfl, rfl⟩)
  go_ret
  exact ⟨rfl, rfl⟩
set_option maxHeartbeats 400000 in
theorem zCancel (w : World) (v : Value) (h : NoCh w v) : Calls Try.prog 63 #[v] w fun e w' => e = .returned (.int .i64 1) ∧ w = w' := by
  go_enter Try.func63, Try.ntmps63
  go_wp2_with (go_at_call 83; refine (zNow w v h 9).mono ?_; rintro e w' ⟨rfl, rfl⟩)
  go_ret
  exact ⟨rfl, rfl⟩
set_option maxHeartbeats 400000 in
theorem zTrade (w : World) (v : Value) (h : NoCh w v) (x0 : Int) : Calls Try.prog 54 #[v, .int .i64 x0] w fun e w' => e = .returned (.int .i64 1) ∧ w = w' := by
  go_enter Try.func54, Try.ntmps54
  go_wp2_with (go_at_call 64; refine (h).mono ?_; rintro e w' ⟨rfl, rfl⟩)
  go_ret
  exact ⟨rfl, rfl⟩
set_option maxHeartbeats 400000 in
theorem zBust (w : World) (v : Value) (h : NoCh w v) (x0 : Int) : Calls Try.prog 62 #[v, .int .i64 x0] w fun e w' => e = .returned (.int .i64 1) ∧ w = w' := by
  go_enter Try.func62, Try.ntmps62
  go_wp2_with (go_at_call 64; refine (h).mono ?_; rintro e w' ⟨rfl, rfl⟩)
  go_ret
  exact ⟨rfl, rfl⟩
set_option maxHeartbeats 400000 in
theorem zReplace (w : World) (v : Value) (h : NoCh w v) (x0 : Int) (x1 : Int) : Calls Try.prog 56 #[v, .int .i64 x0, .int .i64 x1] w fun e w' => e = .returned (.int .i64 1) ∧ w = w' := by
  go_enter Try.func56, Try.ntmps56
  go_wp2_with (go_at_call 64; refine (h).mono ?_; rintro e w' ⟨rfl, rfl⟩)
  go_ret
  exact ⟨rfl, rfl⟩
set_option maxHeartbeats 400000 in
theorem zOpen (w : World) (v : Value) (h : NoCh w v) : Calls Try.prog 22 #[v] w fun e w' => e = .returned (.bool false) ∧ w = w' := by
  go_enter Try.func22, Try.ntmps22
  go_wp2_with (go_at_call 64; refine (h).mono ?_; rintro e w' ⟨rfl, rfl⟩)
  go_ret
  exact ⟨rfl, rfl⟩
set_option maxHeartbeats 400000 in
theorem zClaim (w : World) (v : Value) (h : NoCh w v) : Calls Try.prog 23 #[v] w fun e w' => e = .returned (.int .i64 0) ∧ w = w' := by
  go_enter Try.func23, Try.ntmps23
  go_wp2_with (go_at_call 64; refine (h).mono ?_; rintro e w' ⟨rfl, rfl⟩)
  go_ret
  exact ⟨rfl, rfl⟩
set_option maxHeartbeats 400000 in
theorem zCover (w : World) (v : Value) (h : NoCh w v) : Calls Try.prog 24 #[v] w fun e w' => e = .returned (.int .i64 0) ∧ w = w' := by
  go_enter Try.func24, Try.ntmps24
  go_wp2_with (go_at_call 64; refine (h).mono ?_; rintro e w' ⟨rfl, rfl⟩)
  go_ret
  exact ⟨rfl, rfl⟩
set_option maxHeartbeats 800000 in
set_option maxRecDepth 100000 in
theorem zStatus (w : World) (v : Value) (h : ∀ cs, NoCh (w.alloc (.cells cs 35)) v) : Calls Try.prog 21 #[v] w fun e w' => e = .returned (.agg #[.string ⟨#[]⟩, .string ⟨#[]⟩, .int .i64 0, .int .i64 0, .int .i64 0, .int .i64 0, .int .i64 0, .int .i64 0, .int .i64 0, .int .i64 0]) ∧ Below w.heap.size w w' := by
  have H := Lib.hid h
  clear h
  go_enter Try.func21, Try.ntmps21
  go_wp2_with (go_at_call 64; refine (H.out _).mono ?_; rintro e w' ⟨rfl, rfl⟩)
  refine bodyPost_ret (v := .agg #[.string ⟨#[]⟩, .string ⟨#[]⟩, .int .i64 0, .int .i64 0, .int .i64 0, .int .i64 0, .int .i64 0, .int .i64 0, .int .i64 0, .int .i64 0]) (by simp [results, Try.results21, go_sem]) rfl ⟨rfl, ?_⟩
  repeat (refine Below.setCell ?_ (by simp; try omega) _)
  exact Below.alloc_set

/-- do of none. -/
def DoN (w : World) (e : Ending) (w' : World) : Prop := e = .returned (.int .i64 1) ∧ Below w.heap.size w w'
set_option maxHeartbeats 800000 in
set_option maxRecDepth 100000 in
theorem zDo1 (w : World) (v : Value) (o2 o3 : Int) (h : ∀ cs, NoCh (w.alloc (.cells cs 32)) v) : Calls Try.prog 20 #[v, .agg #[.int .i64 1, .int .i64 o2, .int .i64 o3]] w fun e w' => DoN w e w' := by
  have H := Lib.hid h
  clear h
  go_enter Try.func20, Try.ntmps20
  go_wp2_with (go_at_call 55; refine (zAck _ v (H.out _)).mono ?_; rintro e w' ⟨rfl, rfl⟩)
  go_ret
  exact ⟨rfl, Below.alloc_set⟩
set_option maxHeartbeats 800000 in
set_option maxRecDepth 100000 in
theorem zDo2 (w : World) (v : Value) (o2 o3 : Int) (h : ∀ cs, NoCh (w.alloc (.cells cs 32)) v) : Calls Try.prog 20 #[v, .agg #[.int .i64 2, .int .i64 o2, .int .i64 o3]] w fun e w' => DoN w e w' := by
  have H := Lib.hid h
  clear h
  go_enter Try.func20, Try.ntmps20
  go_wp2_with (go_at_call 59; refine (zCanceled _ v (H.out _)).mono ?_; rintro e w' ⟨rfl, rfl⟩)
  go_ret
  exact ⟨rfl, Below.alloc_set⟩
set_option maxHeartbeats 800000 in
set_option maxRecDepth 100000 in
theorem zDo3 (w : World) (v : Value) (o2 o3 : Int) (h : ∀ cs, NoCh (w.alloc (.cells cs 32)) v) : Calls Try.prog 20 #[v, .agg #[.int .i64 3, .int .i64 o2, .int .i64 o3]] w fun e w' => DoN w e w' := by
  have H := Lib.hid h
  clear h
  go_enter Try.func20, Try.ntmps20
  go_wp2_with (go_at_call 60; refine (zReplaced _ v (H.out _)).mono ?_; rintro e w' ⟨rfl, rfl⟩)
  go_ret
  exact ⟨rfl, Below.alloc_set⟩
set_option maxHeartbeats 800000 in
set_option maxRecDepth 100000 in
theorem zDo4 (w : World) (v : Value) (o2 o3 : Int) (h : ∀ cs, NoCh (w.alloc (.cells cs 32)) v) : Calls Try.prog 20 #[v, .agg #[.int .i64 4, .int .i64 o2, .int .i64 o3]] w fun e w' => DoN w e w' := by
  have H := Lib.hid h
  clear h
  go_enter Try.func20, Try.ntmps20
  go_wp2_with (go_at_call 61; refine (zRejected _ v (H.out _)).mono ?_; rintro e w' ⟨rfl, rfl⟩)
  go_ret
  exact ⟨rfl, Below.alloc_set⟩
set_option maxHeartbeats 800000 in
set_option maxRecDepth 100000 in
theorem zDo5 (w : World) (v : Value) (o2 o3 : Int) (h : ∀ cs, NoCh (w.alloc (.cells cs 32)) v) : Calls Try.prog 20 #[v, .agg #[.int .i64 5, .int .i64 o2, .int .i64 o3]] w fun e w' => DoN w e w' := by
  have H := Lib.hid h
  clear h
  go_enter Try.func20, Try.ntmps20
  go_wp2_with (go_at_call 54; refine (zTrade _ v (H.out _) _).mono ?_; rintro e w' ⟨rfl, rfl⟩)
  go_ret
  exact ⟨rfl, Below.alloc_set⟩
set_option maxHeartbeats 800000 in
set_option maxRecDepth 100000 in
theorem zDo6 (w : World) (v : Value) (o2 o3 : Int) (h : ∀ cs, NoCh (w.alloc (.cells cs 32)) v) : Calls Try.prog 20 #[v, .agg #[.int .i64 6, .int .i64 o2, .int .i64 o3]] w fun e w' => DoN w e w' := by
  have H := Lib.hid h
  clear h
  go_enter Try.func20, Try.ntmps20
  go_wp2_with (go_at_call 62; refine (zBust _ v (H.out _) _).mono ?_; rintro e w' ⟨rfl, rfl⟩)
  go_ret
  exact ⟨rfl, Below.alloc_set⟩
set_option maxHeartbeats 800000 in
set_option maxRecDepth 100000 in
theorem zDo8 (w : World) (v : Value) (o2 o3 : Int) (h : ∀ cs, NoCh (w.alloc (.cells cs 32)) v) : Calls Try.prog 20 #[v, .agg #[.int .i64 8, .int .i64 o2, .int .i64 o3]] w fun e w' => DoN w e w' := by
  have H := Lib.hid h
  clear h
  go_enter Try.func20, Try.ntmps20
  go_wp2_with (go_at_call 57; refine (zRefused _ v (H.out _)).mono ?_; rintro e w' ⟨rfl, rfl⟩)
  go_ret
  exact ⟨rfl, Below.alloc_set⟩
set_option maxHeartbeats 800000 in
set_option maxRecDepth 100000 in
theorem zDo9 (w : World) (v : Value) (o2 o3 : Int) (h : ∀ cs, NoCh (w.alloc (.cells cs 32)) v) : Calls Try.prog 20 #[v, .agg #[.int .i64 9, .int .i64 o2, .int .i64 o3]] w fun e w' => DoN w e w' := by
  have H := Lib.hid h
  clear h
  go_enter Try.func20, Try.ntmps20
  go_wp2_with (go_at_call 63; refine (zCancel _ v (H.out _)).mono ?_; rintro e w' ⟨rfl, rfl⟩)
  go_ret
  exact ⟨rfl, Below.alloc_set⟩
set_option maxHeartbeats 800000 in
set_option maxRecDepth 100000 in
theorem zDo10 (w : World) (v : Value) (o2 o3 : Int) (h : ∀ cs, NoCh (w.alloc (.cells cs 32)) v) : Calls Try.prog 20 #[v, .agg #[.int .i64 10, .int .i64 o2, .int .i64 o3]] w fun e w' => DoN w e w' := by
  have H := Lib.hid h
  clear h
  go_enter Try.func20, Try.ntmps20
  go_wp2_with (go_at_call 56; refine (zReplace _ v (H.out _) _ _).mono ?_; rintro e w' ⟨rfl, rfl⟩)
  go_ret
  exact ⟨rfl, Below.alloc_set⟩

theorem zDo (w : World) (v : Value) (k o2 o3 : Int) (h1 : 1 ≤ k) (h2 : k ≤ 10) (h7 : k ≠ 7) (h : ∀ cs, NoCh (w.alloc (.cells cs 32)) v) : Calls Try.prog 20 #[v, .agg #[.int .i64 k, .int .i64 o2, .int .i64 o3]] w fun e w' => DoN w e w' := by
  have hk : k = 1 ∨ k = 2 ∨ k = 3 ∨ k = 4 ∨ k = 5 ∨ k = 6 ∨ k = 8 ∨ k = 9 ∨ k = 10 := by omega
  rcases hk with rfl | rfl | rfl | rfl | rfl | rfl | rfl | rfl | rfl
  · exact zDo1 w v o2 o3 h
  · exact zDo2 w v o2 o3 h
  · exact zDo3 w v o2 o3 h
  · exact zDo4 w v o2 o3 h
  · exact zDo5 w v o2 o3 h
  · exact zDo6 w v o2 o3 h
  · exact zDo8 w v o2 o3 h
  · exact zDo9 w v o2 o3 h
  · exact zDo10 w v o2 o3 h

end Go.Proofs.Ytjhlaifflhjafaa
