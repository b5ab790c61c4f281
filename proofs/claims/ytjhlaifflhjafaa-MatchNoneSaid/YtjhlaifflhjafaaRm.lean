import Derived.Test.YtjhlaifflhjafaaRl
namespace Go.Proofs.Ytjhlaifflhjafaa
open Go.RowKit

theorem RosM.below {B : Nat} {a w w' : World} {rb gt gn : Nat} {slots : List ByteArray} {seats : List Seat} {v v' : Value} {R : Nat} (h : RosM w w' rb gt gn v v') (hr : RosAt w rb gt gn R slots seats v) (hb : Below B a w) (h1 : B ≤ rb) (h2 : B ≤ gt) (h3 : B ≤ gn) : Below B a w' := by
  refine Below.mods hb h.1 (fun k hk => ?_) (Nat.le_trans h1 (by have := hr.ho.lt; omega))
  have hob := own_block hr.hown
  have hl1 := hr.l1
  rcases hk with rfl | rfl | rfl | hk
  · exact h1
  · exact h2
  · exact h3
  · have := hob k hk; omega

def nA : ByteArray := ⟨#[97]⟩
def nB : ByteArray := ⟨#[98]⟩
def nC : ByteArray := ⟨#[99]⟩
set_option maxHeartbeats 1600000 in
set_option maxRecDepth 100000 in
theorem awake15 (w : World) : Calls Try.prog 15 #[] w fun e w' => e = .returned (.bool true) ∧ Below w.heap.size w w' := by
  have e1 : putS (List.replicate 2 em) nB = ((0, 0), [nB, em]) := by kernel_rfl
  have e2 : putS [nB, em] nA = ((1, 0), [nB, nA]) := by kernel_rfl
  have e3 : putS [nB, nA] nC = ((0, 40), [nB, nA]) := by kernel_rfl
  have e4 : nameB ⟨#[97, 61, 98]⟩ = false := by kernel_rfl
  have E1 := Lib.hid e1
  have E2 := Lib.hid e2
  have E3 := Lib.hid e3
  have E4 := Lib.hid e4
  clear e1 e2 e3 e4
  go_enter Try.func15, Try.ntmps15
  go_wp2_with fail
  refine (rosNew_yes w 2 (by decide) (by decide)).mono ?_
  rintro e w1 ⟨rb, gt, gn, rfl, h, b1, b2, b3, hB⟩
  go_wp2_with fail
  refine (rosPut w1 rb gt gn 2 _ _ _ h nB).mono ?_
  rw [E1.out]
  rintro e w2 ⟨rfl, s2, v2, h2, hm⟩
  have hB2 := hm.below h hB b1 b2 b3
  clear hm h hB
  go_wp2_with fail
  refine (rosPut w2 rb gt gn 2 _ _ _ h2 nA).mono ?_
  rw [E2.out]
  rintro e w3 ⟨rfl, s3, v3, h3, hm⟩
  have hB3 := hm.below h2 hB2 b1 b2 b3
  clear hm h2 hB2
  go_wp2_with fail
  refine (rosPut w3 rb gt gn 2 _ _ _ h3 nC).mono ?_
  rw [E3.out]
  rintro e w4 ⟨rfl, s4, v4, h4, hm⟩
  have hB4 := hm.below h3 hB3 b1 b2 b3
  have hv := kValid w4 ⟨#[97, 61, 98]⟩
  rw [E4.out] at hv
  have HV := Lib.hid hv
  have HB4 := Lib.hid hB4
  clear hm h3 hB3 h4 hv hB4
  go_wp2_with (go_at_call 16; refine HV.out.mono ?_; rintro e w5 ⟨rfl, hb5⟩)
  go_ret
  exact ⟨rfl, HB4.out.trans (hb5.mono HB4.out.size)⟩

set_option maxHeartbeats 800000 in
theorem rosterNames_walk (w : World) (s : ByteArray) (hs : s.size ≤ maxLen) :
    Calls Try.prog 3 #[.string s] w fun e w' => e = .returned (.bool true) ∧ Below w.heap.size w w' := by
  unfold maxLen at hs
  by_cases h3 : 300 < s.size
  · have d : decide ((300 : Int) < s.size) = true := by simp; omega
    clear h3
    go_enter Try.func3, Try.ntmps3
    go_wp2_with (go_at_call 15; refine (awake15 _).mono ?_; rintro e w' ⟨rfl, hbw⟩)
    go_ret
    exact ⟨rfl, hbw⟩
  · have d : decide ((300 : Int) < s.size) = false := by simp; omega
    have HV := fun W => Lib.hid (kValid W s)
    have HR : Hid (∀ W, Calls Try.prog 17 #[.string s] W fun e w' => e = .returned (.bool (nameB s)) ∧ Below W.heap.size W w') := Lib.hid (fun W => rValid W s (by omega))
    clear h3
    generalize nameB s = nb at *
    go_enter Try.func3, Try.ntmps3
    go_wp2_with (first
      | (go_at_call 15; refine (awake15 _).mono ?_; rintro e w1 ⟨rfl, hbw⟩)
      | (go_at_call 16; refine (HV _).out.mono ?_; rintro e w2 ⟨rfl, hb2⟩)
      | (go_at_call 17; refine (HR.out _).mono ?_; rintro e w3 ⟨rfl, hb3⟩))
    go_ret
    exact ⟨ret_bool (by simp), (hbw.trans (hb2.mono hbw.size)).trans (hb3.mono (Nat.le_trans hbw.size hb2.size))⟩

end Go.Proofs.Ytjhlaifflhjafaa
