import Derived.Test.YtjhlaifflhjafaaRr
namespace Go.Proofs.Ytjhlaifflhjafaa
open Go.RowKit

set_option maxHeartbeats 1600000 in
set_option maxRecDepth 100000 in
theorem rosterPlays_out (w : World) (room : Int) (A : Option Addr) (n c : Nat) (ops : List ROp) (hr : Rd w A n 3 (ops.flatMap roCells)) (hl : ops.length = n) (h : room < 1 ∨ 300 < room) :
    Calls Try.prog 8 #[.int .i64 room, .slice A n c] w fun e w' => e = .returned (.bool true) ∧ Below w.heap.size w w' := by
  have hfw := fun W hb => few25 W A n c ops (hr.below hb) hl
  generalize fewR ops = fb at *
  have HFw : Hid (∀ W, Below w.heap.size w W → Calls Try.prog 25 #[.slice A n c] W fun e w' => e = .returned (.bool fb) ∧ Below W.heap.size W w') := Lib.hid hfw
  clear hfw hr hl
  cases fb with
  | false =>
    clear h
    go_enter Try.func8, Try.ntmps8
    go_wp2_with (first
      | (go_at_call 15; refine (awake15 _).mono ?_; rintro e w1 ⟨rfl, hb1⟩)
      | (go_at_call 25; refine (HFw.out _ hb1).mono ?_; rintro e w2 ⟨rfl, hb2⟩))
    go_ret
    exact ⟨rfl, hb1.trans (hb2.mono hb1.size)⟩
  | true =>
  by_cases h1 : room < 1
  · have d1 : decide (room < 1) = true := by simpa using h1
    have d2 : decide (300 < room) = false := by simp; omega
    have hno := fun W => rosNew_no W room (.inl h1)
    have HNo := Lib.hid hno
    clear h h1 hno
    go_enter Try.func8, Try.ntmps8
    go_wp2_with (first
      | (go_at_call 15; refine (awake15 _).mono ?_; rintro e w1 ⟨rfl, hb1⟩)
      | (go_at_call 25; refine (HFw.out _ hb1).mono ?_; rintro e w2 ⟨rfl, hb2⟩)
      | (go_at_call 26; refine (HNo.out _).mono ?_; rintro e w' ⟨rfl, rfl⟩))
    go_ret
    exact ⟨rfl, hb1.trans (hb2.mono hb1.size)⟩
  have d1 : decide (room < 1) = false := by simpa using h1
  replace h := h.resolve_left h1
  have d2 : decide (300 < room) = true := by simpa using h
  by_cases h2 : room ≤ 1024
  · have d3 : decide (room ≤ 1024) = true := by simpa using h2
    clear h h1 h2
    go_enter Try.func8, Try.ntmps8
    go_wp2_with (first
      | (go_at_call 15; refine (awake15 _).mono ?_; rintro e w1 ⟨rfl, hb1⟩)
      | (go_at_call 25; refine (HFw.out _ hb1).mono ?_; rintro e w2 ⟨rfl, hb2⟩))
    go_ret
    exact ⟨rfl, hb1.trans (hb2.mono hb1.size)⟩
  · have d3 : decide (room ≤ 1024) = false := by simpa using h2
    have d4 : decide (1024 < room) = true := by simp; omega
    have hno := fun W => rosNew_no W room (.inr (by omega))
    have HNo := Lib.hid hno
    clear h h1 h2 hno
    go_enter Try.func8, Try.ntmps8
    go_wp2_with (first
      | (go_at_call 15; refine (awake15 _).mono ?_; rintro e w1 ⟨rfl, hb1⟩)
      | (go_at_call 25; refine (HFw.out _ hb1).mono ?_; rintro e w2 ⟨rfl, hb2⟩)
      | (go_at_call 26; refine (HNo.out _).mono ?_; rintro e w' ⟨rfl, rfl⟩))
    go_ret
    exact ⟨rfl, hb1.trans (hb2.mono hb1.size)⟩

theorem rosterPlays_walk (w : World) (room : Int) (A : Option Addr) (n c : Nat) (ops : List ROp) (hr : Rd w A n 3 (ops.flatMap roCells)) (hl : ops.length = n) :
    Calls Try.prog 8 #[.int .i64 room, .slice A n c] w fun e w' => e = .returned (.bool true) ∧ Below w.heap.size w w' := by
  by_cases h : room < 1 ∨ 300 < room
  · exact rosterPlays_out w room A n c ops hr hl h
  · obtain ⟨R, rfl⟩ : ∃ R : Nat, room = R := ⟨room.toNat, by omega⟩
    exact rosterPlays_in w R (by omega) (by omega) A n c ops hr hl

end Go.Proofs.Ytjhlaifflhjafaa
