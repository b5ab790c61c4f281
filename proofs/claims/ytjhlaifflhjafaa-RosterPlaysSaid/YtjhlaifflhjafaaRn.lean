import Derived.Test.YtjhlaifflhjafaaRm
namespace Go.Proofs.Ytjhlaifflhjafaa
open Go.RowKit

/-! Of a roster that is none. -/
def NoRo (W : World) (v : Value) : Prop := Calls Try.prog 67 #[v] W fun e w' => e = .returned (.bool false) ∧ W = w'
set_option maxHeartbeats 400000 in
theorem zoPut (w : World) (v : Value) (h : NoRo w v) (nm : ByteArray) : Calls Try.prog 27 #[v, .string nm] w fun e w' => e = .returned (.tuple #[.int .i64 0, .int .i64 1]) ∧ w = w' := by
  go_enter Try.func27, Try.ntmps27
  go_wp2_with (go_at_call 67; refine h.mono ?_; rintro e w' ⟨rfl, rfl⟩)
  go_ret2
  exact ⟨rfl, rfl⟩
set_option maxHeartbeats 400000 in
theorem zoFind (w : World) (v : Value) (h : NoRo w v) (nm : ByteArray) : Calls Try.prog 30 #[v, .string nm] w fun e w' => e = .returned (.tuple #[.int .i64 0, .bool false]) ∧ w = w' := by
  go_enter Try.func30, Try.ntmps30
  go_wp2_with (go_at_call 67; refine h.mono ?_; rintro e w' ⟨rfl, rfl⟩)
  go_ret2
  exact ⟨rfl, rfl⟩
set_option maxHeartbeats 400000 in
theorem zoName (w : World) (v : Value) (h : NoRo w v) (x : Int) : Calls Try.prog 31 #[v, .int .i64 x] w fun e w' => e = .returned (.tuple #[.string ⟨#[]⟩, .bool false]) ∧ w = w' := by
  go_enter Try.func31, Try.ntmps31
  go_wp2_with (go_at_call 67; refine h.mono ?_; rintro e w' ⟨rfl, rfl⟩)
  go_ret2
  exact ⟨rfl, rfl⟩
set_option maxHeartbeats 400000 in
theorem zoDrop (w : World) (v : Value) (h : NoRo w v) (nm : ByteArray) : Calls Try.prog 29 #[v, .string nm] w fun e w' => e = .returned (.int .i64 1) ∧ w = w' := by
  go_enter Try.func29, Try.ntmps29
  go_wp2_with (go_at_call 67; refine h.mono ?_; rintro e w' ⟨rfl, rfl⟩)
  go_ret
  exact ⟨rfl, rfl⟩
set_option maxHeartbeats 400000 in
theorem zoCount (w : World) (v : Value) (h : NoRo w v) : Calls Try.prog 28 #[v] w fun e w' => e = .returned (.int .i64 0) ∧ w = w' := by
  go_enter Try.func28, Try.ntmps28
  go_wp2_with (go_at_call 67; refine h.mono ?_; rintro e w' ⟨rfl, rfl⟩)
  go_ret
  exact ⟨rfl, rfl⟩
set_option maxHeartbeats 400000 in
theorem zoSorted (w : World) (v : Value) (h : NoRo w v) : Calls Try.prog 42 #[v] w fun e w' => e = .returned (.slice none 0 0) ∧ w = w' := by
  go_enter Try.func42, Try.ntmps42
  go_wp2_with (go_at_call 67; refine h.mono ?_; rintro e w' ⟨rfl, rfl⟩)
  go_ret
  exact ⟨rfl, rfl⟩

/-- RosterNone's loop: the roster that New did not make, the list of both. -/
structure ZRo (w W : World) (b : Nat) : Prop where
  hs : Ob W b 80 [.slice none 0 0, .slice none 0 0, .slice none 0 0]
  ha : Ob W (b + 1) 47 [.pointer none, .pointer (some ⟨b, 0, none⟩)]
  hb : Below w.heap.size w W
def NoRw (b : Nat) (v : Value) : Prop := v = .pointer none ∨ v = .pointer (some ⟨b, 0, none⟩)
theorem NoRw.no {w W : World} {b : Nat} {v : Value} (h : NoRw b v) (hb : ZRo w W b) : NoRo W v := by
  rcases h with rfl | rfl
  · exact rosIs_nil W
  · exact rosIs_none W b (hb.hs.cell 1)

set_option maxHeartbeats 1600000 in
set_option maxRecDepth 100000 in
theorem rosterNone_walk (w : World) (nm : ByteArray) (hnm : nm.size ≤ maxLen) (x : Int) :
    Calls Try.prog 9 #[.string nm, .int .i64 x] w fun e w' => e = .returned (.bool true) ∧ Below w.heap.size w w' := by
  clear hnm
  go_enter Try.func9, Try.ntmps9
  go_wp2_with fail
  refine (awake15 _).mono ?_
  rintro e w1 ⟨rfl, hb1⟩
  have hs1 := hb1.size
  have HB1 := Lib.hid hb1
  clear hb1
  go_upto_region 5 with (fail)
  refine cutW (fun W => ZRo w W w1.heap.size) ⟨?_, ?_, ?_⟩ ?_
  · exact Ob.alloc (Ob.new w1 80 [.slice none 0 0, .slice none 0 0, .slice none 0 0]) _
  · exact Ob.new2 w1 (.cells #[.slice none 0 0, .slice none 0 0, .slice none 0 0] 80) 47 [.pointer none, .pointer (some ⟨w1.heap.size, 0, none⟩)]
  · exact (HB1.out.alloc (by omega) _).alloc (by simp; omega) _
  clear HB1
  generalize w1.heap.size = b at *
  intro W hR0
  go_loopw [21] (fun i wr => ∃ (k : Nat), k ≤ 2 ∧ i = .int .i64 k ∧ ZRo w wr b) (fun i _ => 2 - (intOf i).toNat)
  case atStart => exact ⟨0, by omega, rfl, hR0⟩
  case round =>
    clear hR0
    obtain ⟨k, hk, rfl, hR⟩ := hrel
    by_cases hlt : k < 2
    · obtain ⟨v, hv, hnv⟩ : ∃ v, [Value.pointer none, .pointer (some ⟨b, 0, none⟩)][k]? = some v ∧ NoRw b v := by
        match k, hlt with
        | 0, _ => exact ⟨_, rfl, .inl rfl⟩
        | 1, _ => exact ⟨_, rfl, .inr rfl⟩
      have hc2 := hR.ha.cell k
      rw [hv] at hc2
      have hd2 : decide ((k : Int) < 2) = true := by simp; omega
      have hno := hnv.no hR
      have HN := Lib.hid hno
      have HR := Lib.hid hR
      clear hR hv hnv hno
      go_wp2_with (first | (go_at_call 27; refine (zoPut _ v HN.out _).mono ?_; rintro e w' ⟨rfl, rfl⟩) | (go_at_call 30; refine (zoFind _ v HN.out _).mono ?_; rintro e w' ⟨rfl, rfl⟩) | (go_at_call 31; refine (zoName _ v HN.out _).mono ?_; rintro e w' ⟨rfl, rfl⟩) | (go_at_call 29; refine (zoDrop _ v HN.out _).mono ?_; rintro e w' ⟨rfl, rfl⟩) | (go_at_call 28; refine (zoCount _ v HN.out).mono ?_; rintro e w' ⟨rfl, rfl⟩) | (go_at_call 42; refine (zoSorted _ v HN.out).mono ?_; rintro e w' ⟨rfl, rfl⟩))
      go_roundw
      case rel => exact ⟨k + 1, by omega, by go_num, HR.out⟩
      case measure => simp [intOf]; omega
    · have hk2 : k = 2 := by omega
      subst hk2
      have HR := Lib.hid hR
      clear hR
      go_wp2_with fail
      go_ret
      exact ⟨rfl, HR.out.hb⟩

end Go.Proofs.Ytjhlaifflhjafaa
