import Derived.Test.YteggpdhkpmkldaaQb
namespace Go.Proofs.Yteggpdhkpmkldaa
open Go.RowKit

/-! The session. -/
structure SeAt (w : World) (sb rb : Nat) (sent taken faults : Int) (down : Bool) : Prop where
  ho : Ob w sb 103 [.pointer (some ⟨rb, 0, none⟩), .int .i64 sent, .int .i64 taken, .int .i64 faults, .bool down]
theorem SeAt.below {w w' : World} {sb rb : Nat} {sent taken faults : Int} {down : Bool} (h : SeAt w sb rb sent taken faults down) (hb : Below w.heap.size w w') : SeAt w' sb rb sent taken faults down := ⟨h.ho.below hb h.ho.lt⟩

set_option maxHeartbeats 400000 in
theorem seIs_nil (w : World) : Calls Try.prog 68 #[.pointer none] w fun e w' => e = .returned (.bool false) ∧ w = w' := by
  go_enter Try.func68, Try.ntmps68
  go_wp2
  go_ret
  exact ⟨rfl, rfl⟩
set_option maxHeartbeats 400000 in
theorem seIs_none (w : World) (sb : Nat) (h : w.cell? ⟨sb, 0, none⟩ = some (.pointer none)) : Calls Try.prog 68 #[.pointer (some ⟨sb, 0, none⟩)] w fun e w' => e = .returned (.bool false) ∧ w = w' := by
  go_enter Try.func68, Try.ntmps68
  go_wp2
  go_ret
  exact ⟨rfl, rfl⟩
set_option maxHeartbeats 400000 in
theorem seIs_some (w : World) (sb rb : Nat) (h : w.cell? ⟨sb, 0, none⟩ = some (.pointer (some ⟨rb, 0, none⟩))) : Calls Try.prog 68 #[.pointer (some ⟨sb, 0, none⟩)] w fun e w' => e = .returned (.bool true) ∧ w = w' := by
  go_enter Try.func68, Try.ntmps68
  go_wp2
  go_ret
  exact ⟨rfl, rfl⟩

set_option maxHeartbeats 400000 in
theorem seNew_no (w : World) (n : Int) (h : n < 1 ∨ 1024 < n) :
    Calls Try.prog 39 #[.int .i64 n] w fun e w' => e = .returned (.tuple #[.pointer none, .int .i64 2]) ∧ w = w' := by
  go_enter Try.func39, Try.ntmps39
  go_wp2_with (go_at_call 67; refine (roNew_no _ n h).mono ?_; rintro e w' ⟨rfl, rfl⟩)
  go_ret2
  exact ⟨rfl, rfl⟩
set_option maxHeartbeats 400000 in
set_option maxRecDepth 100000 in
theorem seNew_yes (w : World) (n : Nat) (h1 : 1 ≤ n) (h2 : n ≤ 1024) :
    Calls Try.prog 39 #[.int .i64 n] w fun e w' => ∃ sb rb g, e = .returned (.tuple #[.pointer (some ⟨sb, 0, none⟩), .int .i64 0]) ∧ SeAt w' sb rb 0 0 0 false ∧ RoAt w' rb g n 0 [] (List.replicate n zOd) ∧ w.heap.size ≤ sb ∧ w.heap.size ≤ rb ∧ w.heap.size ≤ g ∧ rb < sb ∧ g < sb ∧ Below w.heap.size w w' := by
  go_enter Try.func39, Try.ntmps39
  go_wp2_with fail
  refine (roNew_yes w n h1 h2).mono ?_
  rintro e w1 ⟨rfl, hR, hb⟩
  have hO := Ob.new w1 103 [.pointer (some ⟨w.heap.size + 1, 0, none⟩), .int .i64 0, .int .i64 0, .int .i64 0, .bool false]
  have hR2 := hR.mods ((Mods.refl (fun _ => False) w1).alloc (.cells #[.pointer (some ⟨w.heap.size + 1, 0, none⟩), .int .i64 0, .int .i64 0, .int .i64 0, .bool false] 103)) id id
  have hl1 := hR.ho.lt
  have hl2 := hR.hg.lt
  have HR := Lib.hid hR2
  have HO := Lib.hid hO
  have HB := Lib.hid hb
  clear hR hO hR2 hb
  go_wp2_with fail
  go_ret2
  exact ⟨w1.heap.size, w.heap.size + 1, w.heap.size, rfl, ⟨HO.out⟩, HR.out, by omega, by omega, by omega, hl1, hl2, HB.out.alloc (by omega) _⟩

def eTake (taken seq : Int) : Int × Int := if seq ≤ taken then (220, taken) else if taken + 1 < seq then (221, taken) else (0, seq)
set_option maxHeartbeats 800000 in
theorem seTake (w : World) (sb rb : Nat) (sent taken faults : Int) (down : Bool) (h : SeAt w sb rb sent taken faults down) (ht0 : 0 ≤ taken) (ht9 : taken ≤ 9223372036854775806) (seq : Int) :
    Calls Try.prog 42 #[.pointer (some ⟨sb, 0, none⟩), .int .i64 seq] w fun e w' => e = .returned (.int .i64 (eTake taken seq).1) ∧ SeAt w' sb rb sent (eTake taken seq).2 faults down ∧ Mods (fun k => k = sb) w w' := by
  have hc := h.ho.cell
  have hz := h.ho.frozen
  have hl := h.ho.lt
  have H := Lib.hid h
  have hw : IntKind.i64.wrap (taken + 1) = taken + 1 := by rw [IntWalk.i64_in _ (by omega)]
  clear h
  unfold eTake
  by_cases h1 : seq ≤ taken
  · rw [if_pos h1]
    have hd : decide (seq ≤ taken) = true := by simpa using h1
    clear h1
    go_enter Try.func42, Try.ntmps42
    go_wp2_with (go_at_call 68; refine (seIs_some _ sb rb (hc 0)).mono ?_; rintro e w' ⟨rfl, rfl⟩)
    go_ret
    exact ⟨rfl, H.out, Mods.refl _ _⟩
  rw [if_neg h1]
  have hd : decide (seq ≤ taken) = false := by simpa using h1
  by_cases h2 : taken + 1 < seq
  · rw [if_pos h2]
    have hd2 : decide (taken + 1 < seq) = true := by simpa using h2
    clear h1 h2
    go_enter Try.func42, Try.ntmps42
    go_wp2_with (go_at_call 68; refine (seIs_some _ sb rb (hc 0)).mono ?_; rintro e w' ⟨rfl, rfl⟩)
    go_ret
    exact ⟨rfl, H.out, Mods.refl _ _⟩
  · rw [if_neg h2]
    have hd2 : decide (taken + 1 < seq) = false := by simpa using h2
    clear h1 h2
    go_enter Try.func42, Try.ntmps42
    go_wp2_with (go_at_call 68; refine (seIs_some _ sb rb (hc 0)).mono ?_; rintro e w' ⟨rfl, rfl⟩)
    go_ret
    exact ⟨rfl, ⟨Ob.set H.out.ho 2 (.int .i64 seq)⟩, (Mods.refl (fun k => k = sb) w).setCell (⟨sb, 2, none⟩ : Addr) (.inl rfl) _⟩

end Go.Proofs.Yteggpdhkpmkldaa
