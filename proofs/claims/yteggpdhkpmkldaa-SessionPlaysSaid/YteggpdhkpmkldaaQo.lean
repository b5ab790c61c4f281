import Derived.Test.YteggpdhkpmkldaaQn
namespace Go.Proofs.Yteggpdhkpmkldaa
open Go.RowKit

/-! What a session tells, and what may be set of it. -/
theorem SsAt.setS {w : World} {sb rb g R first : Nat} {xs arr : List Od} {sent taken faults sent' taken' faults' : Int} {down down' : Bool} (h : SsAt w sb rb g R first xs arr sent taken faults down) (i : Nat) (v : Value)
    (he : [Value.pointer (some ⟨rb, 0, none⟩), .int .i64 sent, .int .i64 taken, .int .i64 faults, .bool down].set i v = [Value.pointer (some ⟨rb, 0, none⟩), .int .i64 sent', .int .i64 taken', .int .i64 faults', .bool down']) :
    SsAt (w.setCell ⟨sb, i, none⟩ v) sb rb g R first xs arr sent' taken' faults' down' :=
  ⟨⟨by have := h.hse.ho.set i v; rwa [he] at this⟩, h.hro.mods ((Mods.refl (fun k => k = sb) w).setCell (⟨sb, i, none⟩ : Addr) (.inl rfl) v) (Ne.symm h.n1) (Ne.symm h.n2), h.n1, h.n2⟩
set_option maxHeartbeats 400000 in
theorem seDown (w : World) (sb rb g R first : Nat) (xs arr : List Od) (sent taken faults : Int) (down : Bool) (h : SsAt w sb rb g R first xs arr sent taken faults down) :
    Calls Try.prog 43 #[.pointer (some ⟨sb, 0, none⟩)] w fun e w' => (∃ u, e = .returned u) ∧ SsAt w' sb rb g R first xs arr sent taken faults true ∧ Mods (fun k => k = sb) w w' := by
  have hc := h.hse.ho.cell
  have hz := h.hse.ho.frozen
  have hl := h.hse.ho.lt
  have H := Lib.hid h
  clear h
  go_enter Try.func43, Try.ntmps43
  go_wp2_with (go_at_call 68; refine (seIs_some _ sb rb (hc 0)).mono ?_; rintro e w' ⟨rfl, rfl⟩)
  go_end0
  exact ⟨⟨_, rfl⟩, H.out.setS 4 (.bool true) rfl, (Mods.refl (fun k => k = sb) w).setCell (⟨sb, 4, none⟩ : Addr) (.inl rfl) _⟩
set_option maxHeartbeats 400000 in
theorem seUp (w : World) (sb rb g R first : Nat) (xs arr : List Od) (sent taken faults : Int) (down : Bool) (h : SsAt w sb rb g R first xs arr sent taken faults down) :
    Calls Try.prog 44 #[.pointer (some ⟨sb, 0, none⟩)] w fun e w' => (∃ u, e = .returned u) ∧ SsAt w' sb rb g R first xs arr sent taken faults false ∧ Mods (fun k => k = sb) w w' := by
  have hc := h.hse.ho.cell
  have hz := h.hse.ho.frozen
  have hl := h.hse.ho.lt
  have H := Lib.hid h
  clear h
  go_enter Try.func44, Try.ntmps44
  go_wp2_with (go_at_call 68; refine (seIs_some _ sb rb (hc 0)).mono ?_; rintro e w' ⟨rfl, rfl⟩)
  go_end0
  exact ⟨⟨_, rfl⟩, H.out.setS 4 (.bool false) rfl, (Mods.refl (fun k => k = sb) w).setCell (⟨sb, 4, none⟩ : Addr) (.inl rfl) _⟩
set_option maxHeartbeats 400000 in
theorem seFault (w : World) (sb rb g R first : Nat) (xs arr : List Od) (sent taken faults : Int) (down : Bool) (h : SsAt w sb rb g R first xs arr sent taken faults down) (h0 : 0 ≤ faults) (h9 : faults ≤ 1099511627776) :
    Calls Try.prog 51 #[.pointer (some ⟨sb, 0, none⟩)] w fun e w' => (∃ u, e = .returned u) ∧ SsAt w' sb rb g R first xs arr sent taken (faults + 1) down ∧ Mods (fun k => k = sb) w w' := by
  have hc := h.hse.ho.cell
  have hz := h.hse.ho.frozen
  have hl := h.hse.ho.lt
  have hw : IntKind.i64.wrap (faults + 1) = faults + 1 := by rw [IntWalk.i64_in _ (by omega)]
  have H := Lib.hid h
  clear h
  go_enter Try.func51, Try.ntmps51
  go_wp2_with (go_at_call 68; refine (seIs_some _ sb rb (hc 0)).mono ?_; rintro e w' ⟨rfl, rfl⟩)
  go_end0
  exact ⟨⟨_, rfl⟩, H.out.setS 3 (.int .i64 (faults + 1)) rfl, (Mods.refl (fun k => k = sb) w).setCell (⟨sb, 3, none⟩ : Addr) (.inl rfl) _⟩
set_option maxHeartbeats 400000 in
theorem seSent (w : World) (sb rb g R first : Nat) (xs arr : List Od) (sent taken faults : Int) (down : Bool) (h : SsAt w sb rb g R first xs arr sent taken faults down) :
    Calls Try.prog 48 #[.pointer (some ⟨sb, 0, none⟩)] w fun e w' => e = .returned (.int .i64 sent) ∧ w = w' := by
  have hc := h.hse.ho.cell
  clear h
  go_enter Try.func48, Try.ntmps48
  go_wp2_with (go_at_call 68; refine (seIs_some _ sb rb (hc 0)).mono ?_; rintro e w' ⟨rfl, rfl⟩)
  go_ret
  exact ⟨rfl, rfl⟩
set_option maxHeartbeats 400000 in
theorem seTaken (w : World) (sb rb g R first : Nat) (xs arr : List Od) (sent taken faults : Int) (down : Bool) (h : SsAt w sb rb g R first xs arr sent taken faults down) :
    Calls Try.prog 46 #[.pointer (some ⟨sb, 0, none⟩)] w fun e w' => e = .returned (.int .i64 taken) ∧ w = w' := by
  have hc := h.hse.ho.cell
  clear h
  go_enter Try.func46, Try.ntmps46
  go_wp2_with (go_at_call 68; refine (seIs_some _ sb rb (hc 0)).mono ?_; rintro e w' ⟨rfl, rfl⟩)
  go_ret
  exact ⟨rfl, rfl⟩
set_option maxHeartbeats 400000 in
theorem seFaults (w : World) (sb rb g R first : Nat) (xs arr : List Od) (sent taken faults : Int) (down : Bool) (h : SsAt w sb rb g R first xs arr sent taken faults down) :
    Calls Try.prog 49 #[.pointer (some ⟨sb, 0, none⟩)] w fun e w' => e = .returned (.int .i64 faults) ∧ w = w' := by
  have hc := h.hse.ho.cell
  clear h
  go_enter Try.func49, Try.ntmps49
  go_wp2_with (go_at_call 68; refine (seIs_some _ sb rb (hc 0)).mono ?_; rintro e w' ⟨rfl, rfl⟩)
  go_ret
  exact ⟨rfl, rfl⟩
set_option maxHeartbeats 400000 in
theorem seWaiting (w : World) (sb rb g R first : Nat) (xs arr : List Od) (sent taken faults : Int) (down : Bool) (h : SsAt w sb rb g R first xs arr sent taken faults down) :
    Calls Try.prog 45 #[.pointer (some ⟨sb, 0, none⟩)] w fun e w' => e = .returned (.int .i64 xs.length) ∧ w = w' := by
  have hc := h.hse.ho.cell
  have HL := Lib.hid (roLen_any w rb g R first xs arr h.hro)
  clear h
  go_enter Try.func45, Try.ntmps45
  go_wp2_with (first
    | (go_at_call 68; refine (seIs_some _ sb rb (hc 0)).mono ?_; rintro e w' ⟨rfl, rfl⟩)
    | (go_at_call 72; refine HL.out.mono ?_; rintro e w' ⟨rfl, rfl⟩))
  go_ret
  exact ⟨rfl, rfl⟩
set_option maxHeartbeats 400000 in
theorem seHealthy (w : World) (sb rb g R first : Nat) (xs arr : List Od) (sent taken faults : Int) (down : Bool) (h : SsAt w sb rb g R first xs arr sent taken faults down) :
    Calls Try.prog 50 #[.pointer (some ⟨sb, 0, none⟩)] w fun e w' => e = .returned (.bool (!down && (faults == 0))) ∧ ∃ k, w' = w.drewN k := by
  have hc := h.hse.ho.cell
  clear h
  cases down with
  | true =>
    go_enter Try.func50, Try.ntmps50
    go_wp2_with (go_at_call 68; refine (seIs_some _ sb rb (hc 0)).mono ?_; rintro e w' ⟨rfl, rfl⟩)
    go_ret
    exact ⟨rfl, 0, rfl⟩
  | false =>
    go_enter Try.func50, Try.ntmps50
    go_wp2_with (go_at_call 68; refine (seIs_some _ sb rb (hc 0)).mono ?_; rintro e w' ⟨rfl, rfl⟩)
    go_ret
    exact ⟨rfl, 0, rfl⟩

/-- Equality of two orders. -/
theorem eq85 (w : World) (a0 a1 b0 b1 a4 b4 a5 b5 a6 b6 : Int) (a2 b2 a3 b3 : ByteArray) : (Op.equalIn 10000 85 (.agg #[.int .i64 a0, .int .i64 a1, .string a2, .string a3, .int .i64 a4, .int .i64 a5, .int .i64 a6]) (.agg #[.int .i64 b0, .int .i64 b1, .string b2, .string b3, .int .i64 b4, .int .i64 b5, .int .i64 b6])).run Try.prog w = .ok (a0 == b0 && (a1 == b1 && (a2.toList == b2.toList && (a3.toList == b3.toList && (a4 == b4 && (a5 == b5 && (a6 == b6 && true))))))) w :=
  eqA_of Try.underlying85 (by kernel_rfl) (eqf_cons (by rfl) (by kernel_rfl) (by kernel_rfl) (eqI (k := .i64) Try.underlying3)
    (eqf_cons (by rfl) (by kernel_rfl) (by kernel_rfl) (eqI (k := .i64) Try.underlying3)
    (eqf_cons (by rfl) (by kernel_rfl) (by kernel_rfl) (run_equalIn_string w _ _ _ _ Try.underlying9)
    (eqf_cons (by rfl) (by kernel_rfl) (by kernel_rfl) (run_equalIn_string w _ _ _ _ Try.underlying9)
    (eqf_cons (by rfl) (by kernel_rfl) (by kernel_rfl) (eqI (k := .i64) Try.underlying3)
    (eqf_cons (by rfl) (by kernel_rfl) (by kernel_rfl) (eqI (k := .i64) Try.underlying3)
    (eqf_cons (by rfl) (by kernel_rfl) (by kernel_rfl) (eqI (k := .i64) Try.underlying3) eqf_nil)))))))
theorem neq85_same (a0 a1 a4 a5 a6 : Int) (a2 a3 : ByteArray) : ∀ w, (binOp .neq 85 (.agg #[.int .i64 a0, .int .i64 a1, .string a2, .string a3, .int .i64 a4, .int .i64 a5, .int .i64 a6]) (.agg #[.int .i64 a0, .int .i64 a1, .string a2, .string a3, .int .i64 a4, .int .i64 a5, .int .i64 a6])).run Try.prog w = .ok (.bool false) w := by
  intro w; rw [run_neq_struct, eq85]; simp

end Go.Proofs.Yteggpdhkpmkldaa
