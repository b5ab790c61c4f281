import Derived.Test.YteggpdhkpmkldaaQd
import Derived.Deep.CutBlock
namespace Go.Proofs.Yteggpdhkpmkldaa
open Go.RowKit

def szB (x : Od) : Bool := wiB x.q 1 1099511627776 && wiB x.p 1 1099511627776
def emB (s : ByteArray) : Bool := s.toList == []
/-- RightOrder. -/
def roB (x : Od) : Bool :=
  (x.kd == 1 || x.kd == 2 || x.kd == 3) && (wiB x.sq 1 1099511627776 && (nameB x.id &&
    (if x.kd = 1 then szB x && (nameB x.sy && wiB x.sd 1 2) else if x.kd = 3 then szB x && (emB x.sy && x.sd == 0) else emB x.sy && (x.sd == 0 && (x.q == 0 && x.p == 0)))))

set_option maxHeartbeats 4000000 in
set_option maxRecDepth 100000 in
theorem roRight_0 (w : World) (xk xs : Int) (xi xy : ByteArray) (xd xq xp : Int) (h1 : xk ≠ 1) (h2 : xk ≠ 2) (h3 : xk ≠ 3) : Calls Try.prog 69 #[.agg #[.int .i64 xk, .int .i64 xs, .string xi, .string xy, .int .i64 xd, .int .i64 xq, .int .i64 xp]] w fun e w' => e = .returned (.bool (roB ⟨xk, xs, xi, xy, xd, xq, xp⟩)) ∧ Below w.heap.size w w' := by
  have hr : roB ⟨xk, xs, xi, xy, xd, xq, xp⟩ = false := by simp [roB, h1, h2, h3]
  have hw : owS xk = ⟨#[]⟩ := by simp [owS, h1, h2, h3]
  rw [hr]
  have HW := Lib.hid hw
  clear hr hw h1 h2 h3
  have hc := (Ob.new w 85 [.int .i64 xk, .int .i64 xs, .string xi, .string xy, .int .i64 xd, .int .i64 xq, .int .i64 xp]).cell
  go_enter Try.func69, Try.ntmps69
  go_wp2_with (go_at_call 78; refine (poWord _ _).mono ?_; rw [HW.out]; rintro e w' ⟨rfl, rfl⟩)
  go_ret
  exact ⟨rfl, Below.alloc_set⟩

set_option maxHeartbeats 4000000 in
set_option maxRecDepth 100000 in
theorem roRight_1 (w : World) (xs : Int) (xi xy : ByteArray) (xd xq xp : Int) : Calls Try.prog 69 #[.agg #[.int .i64 1, .int .i64 xs, .string xi, .string xy, .int .i64 xd, .int .i64 xq, .int .i64 xp]] w fun e w' => e = .returned (.bool (roB ⟨1, xs, xi, xy, xd, xq, xp⟩)) ∧ Below w.heap.size w w' := by
  obtain ⟨A, hA⟩ : ∃ A, wiB xs 1 1099511627776 = A := ⟨_, rfl⟩
  obtain ⟨B, hB⟩ : ∃ B, nameB xi = B := ⟨_, rfl⟩
  obtain ⟨C, hC⟩ : ∃ C, wiB xq 1 1099511627776 = C := ⟨_, rfl⟩
  obtain ⟨D, hD⟩ : ∃ D, wiB xp 1 1099511627776 = D := ⟨_, rfl⟩
  obtain ⟨E, hE⟩ : ∃ E, nameB xy = E := ⟨_, rfl⟩
  obtain ⟨F, hF⟩ : ∃ F, wiB xd 1 2 = F := ⟨_, rfl⟩
  obtain ⟨G, hG⟩ : ∃ G, emB xy = G := ⟨_, rfl⟩
  obtain ⟨G2, hG2⟩ : ∃ G2, (xd == 0) = G2 := ⟨_, rfl⟩
  obtain ⟨G3, hG3⟩ : ∃ G3, (xq == 0) = G3 := ⟨_, rfl⟩
  obtain ⟨G4, hG4⟩ : ∃ G4, (xp == 0) = G4 := ⟨_, rfl⟩
  have hr : roB ⟨1, xs, xi, xy, xd, xq, xp⟩ = (A && (B && ((C && D) && (E && F)))) := by simp only [roB, szB, hA, hB, hC, hD, hE, hF, hG, hG2, hG3, hG4]; rfl
  have hw : owS 1 = ⟨#[68]⟩ := rfl
  have HW := Lib.hid hw
  have HA := Lib.hid hA
  have HB := Lib.hid hB
  have HC := Lib.hid hC
  have HD := Lib.hid hD
  have HE := Lib.hid hE
  have HF := Lib.hid hF
  rw [hr]
  have HG := Lib.hid hG
  have HG2 := Lib.hid hG2
  have HG3 := Lib.hid hG3
  have HG4 := Lib.hid hG4
  clear hr hw hA hB hC hD hE hF hG hG2 hG3 hG4
  have hO := Ob.new w 85 [.int .i64 1, .int .i64 xs, .string xi, .string xy, .int .i64 xd, .int .i64 xq, .int .i64 xp]
  have hB0 : Below w.heap.size w (w.alloc (.cells #[.int .i64 1, .int .i64 xs, .string xi, .string xy, .int .i64 xd, .int .i64 xq, .int .i64 xp] 85)) := Below.alloc_set
  go_enter Try.func69, Try.ntmps69
  go_upto_region 1 with (fail)
  refine cutW (fun W => Ob W w.heap.size 85 [.int .i64 1, .int .i64 xs, .string xi, .string xy, .int .i64 xd, .int .i64 xq, .int .i64 xp] ∧ Below w.heap.size w W) ⟨hO, hB0⟩ ?_
  clear hO hB0
  rintro W ⟨hO, hB0⟩
  have hc := hO.cell
  have HO := Lib.hid hO
  have HB0 := Lib.hid hB0
  clear hO hB0
  cases A with
  | false =>
    go_wp2_with (first | (go_at_call 78; refine (poWord _ _).mono ?_; rw [HW.out]; rintro e w' ⟨rfl, rfl⟩) | (go_at_call 79; refine (poWithin _ _ _ _).mono ?_; rintro e w' ⟨rfl, rfl⟩; first | rw [HA.out] | rw [HC.out] | rw [HD.out] | rw [HF.out]) | (go_at_call 53; refine (kValid _ xi).mono ?_; rw [HB.out]; rintro e w3 ⟨rfl, hb3⟩; have ho3 := HO.out.below hb3 HO.out.lt; have hc3 := ho3.cell; have HO3 := Lib.hid ho3; have HB3 := Lib.hid (HB0.out.trans (hb3.mono HB0.out.size)); clear ho3 hb3))
    go_ret
    exact ⟨ret_bool (by simp), HB0.out⟩
  | true =>
  cases B with
  | false =>
    go_wp2_with (first | (go_at_call 78; refine (poWord _ _).mono ?_; rw [HW.out]; rintro e w' ⟨rfl, rfl⟩) | (go_at_call 79; refine (poWithin _ _ _ _).mono ?_; rintro e w' ⟨rfl, rfl⟩; first | rw [HA.out] | rw [HC.out] | rw [HD.out] | rw [HF.out]) | (go_at_call 53; refine (kValid _ xi).mono ?_; rw [HB.out]; rintro e w3 ⟨rfl, hb3⟩; have ho3 := HO.out.below hb3 HO.out.lt; have hc3 := ho3.cell; have HO3 := Lib.hid ho3; have HB3 := Lib.hid (HB0.out.trans (hb3.mono HB0.out.size)); clear ho3 hb3))
    go_ret
    exact ⟨ret_bool (by simp), HB3.out⟩
  | true =>
  go_upto_region 3 with (first | (go_at_call 78; refine (poWord _ _).mono ?_; rw [HW.out]; rintro e w' ⟨rfl, rfl⟩) | (go_at_call 79; refine (poWithin _ _ _ _).mono ?_; rintro e w' ⟨rfl, rfl⟩; first | rw [HA.out] | rw [HC.out] | rw [HD.out] | rw [HF.out]) | (go_at_call 53; refine (kValid _ xi).mono ?_; rw [HB.out]; rintro e w3 ⟨rfl, hb3⟩; have ho3 := HO.out.below hb3 HO.out.lt; have hc3 := ho3.cell; have HO3 := Lib.hid ho3; have HB3 := Lib.hid (HB0.out.trans (hb3.mono HB0.out.size)); clear ho3 hb3))
  refine cutW (fun W => Ob W w.heap.size 85 [.int .i64 1, .int .i64 xs, .string xi, .string xy, .int .i64 xd, .int .i64 xq, .int .i64 xp] ∧ Below w.heap.size w W) ⟨HO3.out, HB3.out⟩ ?_
  clear HO HB0 hc hc3 HO3 HB3 HA HB HW
  rintro W3 ⟨hO, hB0⟩
  have hc := hO.cell
  have HO3 := Lib.hid hO
  have HB3 := Lib.hid hB0
  clear hO hB0
  cases C with
  | false =>
    go_wp2_with (first | (go_at_call 79; refine (poWithin _ _ _ _).mono ?_; rintro e w' ⟨rfl, rfl⟩; first | rw [HC.out] | rw [HD.out] | rw [HF.out]) | (go_at_call 53; refine (kValid _ xy).mono ?_; rw [HE.out]; rintro e w4 ⟨rfl, hb4⟩; have ho4 := HO3.out.below hb4 HO3.out.lt; have hc4 := ho4.cell; have HB4 := Lib.hid (HB3.out.trans (hb4.mono HB3.out.size)); clear ho4 hb4))
    go_ret
    exact ⟨ret_bool (by simp), HB3.out⟩
  | true =>
  cases D with
  | false =>
    go_wp2_with (first | (go_at_call 79; refine (poWithin _ _ _ _).mono ?_; rintro e w' ⟨rfl, rfl⟩; first | rw [HC.out] | rw [HD.out] | rw [HF.out]) | (go_at_call 53; refine (kValid _ xy).mono ?_; rw [HE.out]; rintro e w4 ⟨rfl, hb4⟩; have ho4 := HO3.out.below hb4 HO3.out.lt; have hc4 := ho4.cell; have HB4 := Lib.hid (HB3.out.trans (hb4.mono HB3.out.size)); clear ho4 hb4))
    go_ret
    exact ⟨ret_bool (by simp), HB3.out⟩
  | true =>
  cases E with
  | false =>
    go_wp2_with (first | (go_at_call 79; refine (poWithin _ _ _ _).mono ?_; rintro e w' ⟨rfl, rfl⟩; first | rw [HC.out] | rw [HD.out] | rw [HF.out]) | (go_at_call 53; refine (kValid _ xy).mono ?_; rw [HE.out]; rintro e w4 ⟨rfl, hb4⟩; have ho4 := HO3.out.below hb4 HO3.out.lt; have hc4 := ho4.cell; have HB4 := Lib.hid (HB3.out.trans (hb4.mono HB3.out.size)); clear ho4 hb4))
    go_ret
    exact ⟨ret_bool (by simp), HB4.out⟩
  | true =>
  go_wp2_with (first | (go_at_call 79; refine (poWithin _ _ _ _).mono ?_; rintro e w' ⟨rfl, rfl⟩; first | rw [HC.out] | rw [HD.out] | rw [HF.out]) | (go_at_call 53; refine (kValid _ xy).mono ?_; rw [HE.out]; rintro e w4 ⟨rfl, hb4⟩; have ho4 := HO3.out.below hb4 HO3.out.lt; have hc4 := ho4.cell; have HB4 := Lib.hid (HB3.out.trans (hb4.mono HB3.out.size)); clear ho4 hb4))
  go_ret
  exact ⟨ret_bool (by simp), HB4.out⟩

set_option maxHeartbeats 4000000 in
set_option maxRecDepth 100000 in
theorem roRight_3 (w : World) (xs : Int) (xi xy : ByteArray) (xd xq xp : Int) : Calls Try.prog 69 #[.agg #[.int .i64 3, .int .i64 xs, .string xi, .string xy, .int .i64 xd, .int .i64 xq, .int .i64 xp]] w fun e w' => e = .returned (.bool (roB ⟨3, xs, xi, xy, xd, xq, xp⟩)) ∧ Below w.heap.size w w' := by
  obtain ⟨A, hA⟩ : ∃ A, wiB xs 1 1099511627776 = A := ⟨_, rfl⟩
  obtain ⟨B, hB⟩ : ∃ B, nameB xi = B := ⟨_, rfl⟩
  obtain ⟨C, hC⟩ : ∃ C, wiB xq 1 1099511627776 = C := ⟨_, rfl⟩
  obtain ⟨D, hD⟩ : ∃ D, wiB xp 1 1099511627776 = D := ⟨_, rfl⟩
  obtain ⟨E, hE⟩ : ∃ E, nameB xy = E := ⟨_, rfl⟩
  obtain ⟨F, hF⟩ : ∃ F, wiB xd 1 2 = F := ⟨_, rfl⟩
  obtain ⟨G, hG⟩ : ∃ G, emB xy = G := ⟨_, rfl⟩
  obtain ⟨G2, hG2⟩ : ∃ G2, (xd == 0) = G2 := ⟨_, rfl⟩
  obtain ⟨G3, hG3⟩ : ∃ G3, (xq == 0) = G3 := ⟨_, rfl⟩
  obtain ⟨G4, hG4⟩ : ∃ G4, (xp == 0) = G4 := ⟨_, rfl⟩
  have hr : roB ⟨3, xs, xi, xy, xd, xq, xp⟩ = (A && (B && ((C && D) && (G && G2)))) := by simp only [roB, szB, hA, hB, hC, hD, hE, hF, hG, hG2, hG3, hG4]; rfl
  have hw : owS 3 = ⟨#[71]⟩ := rfl
  have HW := Lib.hid hw
  have HA := Lib.hid hA
  have HB := Lib.hid hB
  have HC := Lib.hid hC
  have HD := Lib.hid hD
  have HE := Lib.hid hE
  have HF := Lib.hid hF
  rw [hr]
  have HG := Lib.hid hG
  have HG2 := Lib.hid hG2
  have HG3 := Lib.hid hG3
  have HG4 := Lib.hid hG4
  clear hr hw hA hB hC hD hE hF hG hG2 hG3 hG4
  have hO := Ob.new w 85 [.int .i64 3, .int .i64 xs, .string xi, .string xy, .int .i64 xd, .int .i64 xq, .int .i64 xp]
  have hB0 : Below w.heap.size w (w.alloc (.cells #[.int .i64 3, .int .i64 xs, .string xi, .string xy, .int .i64 xd, .int .i64 xq, .int .i64 xp] 85)) := Below.alloc_set
  go_enter Try.func69, Try.ntmps69
  go_upto_region 1 with (fail)
  refine cutW (fun W => Ob W w.heap.size 85 [.int .i64 3, .int .i64 xs, .string xi, .string xy, .int .i64 xd, .int .i64 xq, .int .i64 xp] ∧ Below w.heap.size w W) ⟨hO, hB0⟩ ?_
  clear hO hB0
  rintro W ⟨hO, hB0⟩
  have hc := hO.cell
  have HO := Lib.hid hO
  have HB0 := Lib.hid hB0
  clear hO hB0
  cases A with
  | false =>
    go_wp2_with (first | (go_at_call 78; refine (poWord _ _).mono ?_; rw [HW.out]; rintro e w' ⟨rfl, rfl⟩) | (go_at_call 79; refine (poWithin _ _ _ _).mono ?_; rintro e w' ⟨rfl, rfl⟩; first | rw [HA.out] | rw [HC.out] | rw [HD.out] | rw [HF.out]) | (go_at_call 53; refine (kValid _ xi).mono ?_; rw [HB.out]; rintro e w3 ⟨rfl, hb3⟩; have ho3 := HO.out.below hb3 HO.out.lt; have hc3 := ho3.cell; have HO3 := Lib.hid ho3; have HB3 := Lib.hid (HB0.out.trans (hb3.mono HB0.out.size)); clear ho3 hb3))
    go_ret
    exact ⟨ret_bool (by simp), HB0.out⟩
  | true =>
  cases B with
  | false =>
    go_wp2_with (first | (go_at_call 78; refine (poWord _ _).mono ?_; rw [HW.out]; rintro e w' ⟨rfl, rfl⟩) | (go_at_call 79; refine (poWithin _ _ _ _).mono ?_; rintro e w' ⟨rfl, rfl⟩; first | rw [HA.out] | rw [HC.out] | rw [HD.out] | rw [HF.out]) | (go_at_call 53; refine (kValid _ xi).mono ?_; rw [HB.out]; rintro e w3 ⟨rfl, hb3⟩; have ho3 := HO.out.below hb3 HO.out.lt; have hc3 := ho3.cell; have HO3 := Lib.hid ho3; have HB3 := Lib.hid (HB0.out.trans (hb3.mono HB0.out.size)); clear ho3 hb3))
    go_ret
    exact ⟨ret_bool (by simp), HB3.out⟩
  | true =>
  go_upto_region 3 with (first | (go_at_call 78; refine (poWord _ _).mono ?_; rw [HW.out]; rintro e w' ⟨rfl, rfl⟩) | (go_at_call 79; refine (poWithin _ _ _ _).mono ?_; rintro e w' ⟨rfl, rfl⟩; first | rw [HA.out] | rw [HC.out] | rw [HD.out] | rw [HF.out]) | (go_at_call 53; refine (kValid _ xi).mono ?_; rw [HB.out]; rintro e w3 ⟨rfl, hb3⟩; have ho3 := HO.out.below hb3 HO.out.lt; have hc3 := ho3.cell; have HO3 := Lib.hid ho3; have HB3 := Lib.hid (HB0.out.trans (hb3.mono HB0.out.size)); clear ho3 hb3))
  refine cutW (fun W => Ob W w.heap.size 85 [.int .i64 3, .int .i64 xs, .string xi, .string xy, .int .i64 xd, .int .i64 xq, .int .i64 xp] ∧ Below w.heap.size w W) ⟨HO3.out, HB3.out⟩ ?_
  clear HO HB0 hc hc3 HO3 HB3 HA HB HW
  rintro W3 ⟨hO, hB0⟩
  have hc := hO.cell
  have HO3 := Lib.hid hO
  have HB3 := Lib.hid hB0
  clear hO hB0
  cases C with
  | false =>
    go_wp2_with (first | (go_at_call 79; refine (poWithin _ _ _ _).mono ?_; rintro e w' ⟨rfl, rfl⟩; first | rw [HC.out] | rw [HD.out] | rw [HF.out]) | (go_at_call 53; refine (kValid _ xy).mono ?_; rw [HE.out]; rintro e w4 ⟨rfl, hb4⟩; have ho4 := HO3.out.below hb4 HO3.out.lt; have hc4 := ho4.cell; have HB4 := Lib.hid (HB3.out.trans (hb4.mono HB3.out.size)); clear ho4 hb4))
    go_ret
    exact ⟨ret_bool (by simp), HB3.out⟩
  | true =>
  cases D with
  | false =>
    go_wp2_with (first | (go_at_call 79; refine (poWithin _ _ _ _).mono ?_; rintro e w' ⟨rfl, rfl⟩; first | rw [HC.out] | rw [HD.out] | rw [HF.out]) | (go_at_call 53; refine (kValid _ xy).mono ?_; rw [HE.out]; rintro e w4 ⟨rfl, hb4⟩; have ho4 := HO3.out.below hb4 HO3.out.lt; have hc4 := ho4.cell; have HB4 := Lib.hid (HB3.out.trans (hb4.mono HB3.out.size)); clear ho4 hb4))
    go_ret
    exact ⟨ret_bool (by simp), HB3.out⟩
  | true =>
  have hd2 := HG2.out
  cases G with
  | false =>
    have he := HG.out
    have heb : (xy.toList == []) = false := he
    have hen : ¬ xy.toList = [] := by simpa using heb
    clear he
    go_wp2_with (first | (go_at_call 79; refine (poWithin _ _ _ _).mono ?_; rintro e w' ⟨rfl, rfl⟩; first | rw [HC.out] | rw [HD.out] | rw [HF.out]) | (go_at_call 53; refine (kValid _ xy).mono ?_; rw [HE.out]; rintro e w4 ⟨rfl, hb4⟩; have ho4 := HO3.out.below hb4 HO3.out.lt; have hc4 := ho4.cell; have HB4 := Lib.hid (HB3.out.trans (hb4.mono HB3.out.size)); clear ho4 hb4))
    go_ret
    exact ⟨ret_bool (by simp), HB3.out⟩
  | true =>
  have he := HG.out
  have heb : xy.toList = [] := by simpa [emB] using he
  clear he
  cases G2 with
  | false =>
    go_wp2_with (first | (go_at_call 79; refine (poWithin _ _ _ _).mono ?_; rintro e w' ⟨rfl, rfl⟩; first | rw [HC.out] | rw [HD.out] | rw [HF.out]) | (go_at_call 53; refine (kValid _ xy).mono ?_; rw [HE.out]; rintro e w4 ⟨rfl, hb4⟩; have ho4 := HO3.out.below hb4 HO3.out.lt; have hc4 := ho4.cell; have HB4 := Lib.hid (HB3.out.trans (hb4.mono HB3.out.size)); clear ho4 hb4))
    go_ret
    exact ⟨ret_bool (by simp), HB3.out⟩
  | true =>
  go_wp2_with (first | (go_at_call 79; refine (poWithin _ _ _ _).mono ?_; rintro e w' ⟨rfl, rfl⟩; first | rw [HC.out] | rw [HD.out] | rw [HF.out]) | (go_at_call 53; refine (kValid _ xy).mono ?_; rw [HE.out]; rintro e w4 ⟨rfl, hb4⟩; have ho4 := HO3.out.below hb4 HO3.out.lt; have hc4 := ho4.cell; have HB4 := Lib.hid (HB3.out.trans (hb4.mono HB3.out.size)); clear ho4 hb4))
  go_ret
  exact ⟨ret_bool (by simp), HB3.out⟩

set_option maxHeartbeats 4000000 in
set_option maxRecDepth 100000 in
theorem roRight_2 (w : World) (xs : Int) (xi xy : ByteArray) (xd xq xp : Int) : Calls Try.prog 69 #[.agg #[.int .i64 2, .int .i64 xs, .string xi, .string xy, .int .i64 xd, .int .i64 xq, .int .i64 xp]] w fun e w' => e = .returned (.bool (roB ⟨2, xs, xi, xy, xd, xq, xp⟩)) ∧ Below w.heap.size w w' := by
  obtain ⟨A, hA⟩ : ∃ A, wiB xs 1 1099511627776 = A := ⟨_, rfl⟩
  obtain ⟨B, hB⟩ : ∃ B, nameB xi = B := ⟨_, rfl⟩
  obtain ⟨C, hC⟩ : ∃ C, wiB xq 1 1099511627776 = C := ⟨_, rfl⟩
  obtain ⟨D, hD⟩ : ∃ D, wiB xp 1 1099511627776 = D := ⟨_, rfl⟩
  obtain ⟨E, hE⟩ : ∃ E, nameB xy = E := ⟨_, rfl⟩
  obtain ⟨F, hF⟩ : ∃ F, wiB xd 1 2 = F := ⟨_, rfl⟩
  obtain ⟨G, hG⟩ : ∃ G, emB xy = G := ⟨_, rfl⟩
  obtain ⟨G2, hG2⟩ : ∃ G2, (xd == 0) = G2 := ⟨_, rfl⟩
  obtain ⟨G3, hG3⟩ : ∃ G3, (xq == 0) = G3 := ⟨_, rfl⟩
  obtain ⟨G4, hG4⟩ : ∃ G4, (xp == 0) = G4 := ⟨_, rfl⟩
  have hr : roB ⟨2, xs, xi, xy, xd, xq, xp⟩ = (A && (B && (G && (G2 && (G3 && G4))))) := by simp only [roB, szB, hA, hB, hC, hD, hE, hF, hG, hG2, hG3, hG4]; rfl
  have hw : owS 2 = ⟨#[70]⟩ := rfl
  have HW := Lib.hid hw
  have HA := Lib.hid hA
  have HB := Lib.hid hB
  have HC := Lib.hid hC
  have HD := Lib.hid hD
  have HE := Lib.hid hE
  have HF := Lib.hid hF
  rw [hr]
  have HG := Lib.hid hG
  have HG2 := Lib.hid hG2
  have HG3 := Lib.hid hG3
  have HG4 := Lib.hid hG4
  clear hr hw hA hB hC hD hE hF hG hG2 hG3 hG4
  have hO := Ob.new w 85 [.int .i64 2, .int .i64 xs, .string xi, .string xy, .int .i64 xd, .int .i64 xq, .int .i64 xp]
  have hB0 : Below w.heap.size w (w.alloc (.cells #[.int .i64 2, .int .i64 xs, .string xi, .string xy, .int .i64 xd, .int .i64 xq, .int .i64 xp] 85)) := Below.alloc_set
  go_enter Try.func69, Try.ntmps69
  go_upto_region 1 with (fail)
  refine cutW (fun W => Ob W w.heap.size 85 [.int .i64 2, .int .i64 xs, .string xi, .string xy, .int .i64 xd, .int .i64 xq, .int .i64 xp] ∧ Below w.heap.size w W) ⟨hO, hB0⟩ ?_
  clear hO hB0
  rintro W ⟨hO, hB0⟩
  have hc := hO.cell
  have HO := Lib.hid hO
  have HB0 := Lib.hid hB0
  clear hO hB0
  cases A with
  | false =>
    go_wp2_with (first | (go_at_call 78; refine (poWord _ _).mono ?_; rw [HW.out]; rintro e w' ⟨rfl, rfl⟩) | (go_at_call 79; refine (poWithin _ _ _ _).mono ?_; rintro e w' ⟨rfl, rfl⟩; first | rw [HA.out] | rw [HC.out] | rw [HD.out] | rw [HF.out]) | (go_at_call 53; refine (kValid _ xi).mono ?_; rw [HB.out]; rintro e w3 ⟨rfl, hb3⟩; have ho3 := HO.out.below hb3 HO.out.lt; have hc3 := ho3.cell; have HO3 := Lib.hid ho3; have HB3 := Lib.hid (HB0.out.trans (hb3.mono HB0.out.size)); clear ho3 hb3))
    go_ret
    exact ⟨ret_bool (by simp), HB0.out⟩
  | true =>
  cases B with
  | false =>
    go_wp2_with (first | (go_at_call 78; refine (poWord _ _).mono ?_; rw [HW.out]; rintro e w' ⟨rfl, rfl⟩) | (go_at_call 79; refine (poWithin _ _ _ _).mono ?_; rintro e w' ⟨rfl, rfl⟩; first | rw [HA.out] | rw [HC.out] | rw [HD.out] | rw [HF.out]) | (go_at_call 53; refine (kValid _ xi).mono ?_; rw [HB.out]; rintro e w3 ⟨rfl, hb3⟩; have ho3 := HO.out.below hb3 HO.out.lt; have hc3 := ho3.cell; have HO3 := Lib.hid ho3; have HB3 := Lib.hid (HB0.out.trans (hb3.mono HB0.out.size)); clear ho3 hb3))
    go_ret
    exact ⟨ret_bool (by simp), HB3.out⟩
  | true =>
  go_upto_region 3 with (first | (go_at_call 78; refine (poWord _ _).mono ?_; rw [HW.out]; rintro e w' ⟨rfl, rfl⟩) | (go_at_call 79; refine (poWithin _ _ _ _).mono ?_; rintro e w' ⟨rfl, rfl⟩; first | rw [HA.out] | rw [HC.out] | rw [HD.out] | rw [HF.out]) | (go_at_call 53; refine (kValid _ xi).mono ?_; rw [HB.out]; rintro e w3 ⟨rfl, hb3⟩; have ho3 := HO.out.below hb3 HO.out.lt; have hc3 := ho3.cell; have HO3 := Lib.hid ho3; have HB3 := Lib.hid (HB0.out.trans (hb3.mono HB0.out.size)); clear ho3 hb3))
  refine cutW (fun W => Ob W w.heap.size 85 [.int .i64 2, .int .i64 xs, .string xi, .string xy, .int .i64 xd, .int .i64 xq, .int .i64 xp] ∧ Below w.heap.size w W) ⟨HO3.out, HB3.out⟩ ?_
  clear HO HB0 hc hc3 HO3 HB3 HA HB HW
  rintro W3 ⟨hO, hB0⟩
  have hc := hO.cell
  have HO3 := Lib.hid hO
  have HB3 := Lib.hid hB0
  clear hO hB0
  cases C with
  | false =>
    cases G with
    | false =>
      have he := HG.out
      have heb : (xy.toList == []) = false := he
      have hen : ¬ xy.toList = [] := by simpa using heb
      clear he
      go_wp2_with (first | (go_at_call 79; refine (poWithin _ _ _ _).mono ?_; rintro e w' ⟨rfl, rfl⟩; first | rw [HC.out] | rw [HD.out] | rw [HF.out]) | (go_at_call 53; refine (kValid _ xy).mono ?_; rw [HE.out]; rintro e w4 ⟨rfl, hb4⟩; have ho4 := HO3.out.below hb4 HO3.out.lt; have hc4 := ho4.cell; have HB4 := Lib.hid (HB3.out.trans (hb4.mono HB3.out.size)); clear ho4 hb4))
      go_ret
      exact ⟨ret_bool (by simp), HB3.out⟩
    | true =>
    have he := HG.out
    have heb : xy.toList = [] := by simpa [emB] using he
    clear he
    have hd2 := HG2.out
    have hd3 := HG3.out
    have hd4 := HG4.out
    cases G2 with
    | false =>
      go_wp2_with (first | (go_at_call 79; refine (poWithin _ _ _ _).mono ?_; rintro e w' ⟨rfl, rfl⟩; first | rw [HC.out] | rw [HD.out] | rw [HF.out]) | (go_at_call 53; refine (kValid _ xy).mono ?_; rw [HE.out]; rintro e w4 ⟨rfl, hb4⟩; have ho4 := HO3.out.below hb4 HO3.out.lt; have hc4 := ho4.cell; have HB4 := Lib.hid (HB3.out.trans (hb4.mono HB3.out.size)); clear ho4 hb4))
      go_ret
      exact ⟨ret_bool (by simp), HB3.out⟩
    | true =>
    cases G3 with
    | false =>
      go_wp2_with (first | (go_at_call 79; refine (poWithin _ _ _ _).mono ?_; rintro e w' ⟨rfl, rfl⟩; first | rw [HC.out] | rw [HD.out] | rw [HF.out]) | (go_at_call 53; refine (kValid _ xy).mono ?_; rw [HE.out]; rintro e w4 ⟨rfl, hb4⟩; have ho4 := HO3.out.below hb4 HO3.out.lt; have hc4 := ho4.cell; have HB4 := Lib.hid (HB3.out.trans (hb4.mono HB3.out.size)); clear ho4 hb4))
      go_ret
      exact ⟨ret_bool (by simp), HB3.out⟩
    | true =>
    cases G4 with
    | false =>
      go_wp2_with (first | (go_at_call 79; refine (poWithin _ _ _ _).mono ?_; rintro e w' ⟨rfl, rfl⟩; first | rw [HC.out] | rw [HD.out] | rw [HF.out]) | (go_at_call 53; refine (kValid _ xy).mono ?_; rw [HE.out]; rintro e w4 ⟨rfl, hb4⟩; have ho4 := HO3.out.below hb4 HO3.out.lt; have hc4 := ho4.cell; have HB4 := Lib.hid (HB3.out.trans (hb4.mono HB3.out.size)); clear ho4 hb4))
      go_ret
      exact ⟨ret_bool (by simp), HB3.out⟩
    | true =>
      go_wp2_with (first | (go_at_call 79; refine (poWithin _ _ _ _).mono ?_; rintro e w' ⟨rfl, rfl⟩; first | rw [HC.out] | rw [HD.out] | rw [HF.out]) | (go_at_call 53; refine (kValid _ xy).mono ?_; rw [HE.out]; rintro e w4 ⟨rfl, hb4⟩; have ho4 := HO3.out.below hb4 HO3.out.lt; have hc4 := ho4.cell; have HB4 := Lib.hid (HB3.out.trans (hb4.mono HB3.out.size)); clear ho4 hb4))
      go_ret
      exact ⟨ret_bool (by simp), HB3.out⟩
  | true =>
    cases G with
    | false =>
      have he := HG.out
      have heb : (xy.toList == []) = false := he
      have hen : ¬ xy.toList = [] := by simpa using heb
      clear he
      go_wp2_with (first | (go_at_call 79; refine (poWithin _ _ _ _).mono ?_; rintro e w' ⟨rfl, rfl⟩; first | rw [HC.out] | rw [HD.out] | rw [HF.out]) | (go_at_call 53; refine (kValid _ xy).mono ?_; rw [HE.out]; rintro e w4 ⟨rfl, hb4⟩; have ho4 := HO3.out.below hb4 HO3.out.lt; have hc4 := ho4.cell; have HB4 := Lib.hid (HB3.out.trans (hb4.mono HB3.out.size)); clear ho4 hb4))
      go_ret
      exact ⟨ret_bool (by simp), HB3.out⟩
    | true =>
    have he := HG.out
    have heb : xy.toList = [] := by simpa [emB] using he
    clear he
    have hd2 := HG2.out
    have hd3 := HG3.out
    have hd4 := HG4.out
    cases G2 with
    | false =>
      go_wp2_with (first | (go_at_call 79; refine (poWithin _ _ _ _).mono ?_; rintro e w' ⟨rfl, rfl⟩; first | rw [HC.out] | rw [HD.out] | rw [HF.out]) | (go_at_call 53; refine (kValid _ xy).mono ?_; rw [HE.out]; rintro e w4 ⟨rfl, hb4⟩; have ho4 := HO3.out.below hb4 HO3.out.lt; have hc4 := ho4.cell; have HB4 := Lib.hid (HB3.out.trans (hb4.mono HB3.out.size)); clear ho4 hb4))
      go_ret
      exact ⟨ret_bool (by simp), HB3.out⟩
    | true =>
    cases G3 with
    | false =>
      go_wp2_with (first | (go_at_call 79; refine (poWithin _ _ _ _).mono ?_; rintro e w' ⟨rfl, rfl⟩; first | rw [HC.out] | rw [HD.out] | rw [HF.out]) | (go_at_call 53; refine (kValid _ xy).mono ?_; rw [HE.out]; rintro e w4 ⟨rfl, hb4⟩; have ho4 := HO3.out.below hb4 HO3.out.lt; have hc4 := ho4.cell; have HB4 := Lib.hid (HB3.out.trans (hb4.mono HB3.out.size)); clear ho4 hb4))
      go_ret
      exact ⟨ret_bool (by simp), HB3.out⟩
    | true =>
    cases G4 with
    | false =>
      go_wp2_with (first | (go_at_call 79; refine (poWithin _ _ _ _).mono ?_; rintro e w' ⟨rfl, rfl⟩; first | rw [HC.out] | rw [HD.out] | rw [HF.out]) | (go_at_call 53; refine (kValid _ xy).mono ?_; rw [HE.out]; rintro e w4 ⟨rfl, hb4⟩; have ho4 := HO3.out.below hb4 HO3.out.lt; have hc4 := ho4.cell; have HB4 := Lib.hid (HB3.out.trans (hb4.mono HB3.out.size)); clear ho4 hb4))
      go_ret
      exact ⟨ret_bool (by simp), HB3.out⟩
    | true =>
      go_wp2_with (first | (go_at_call 79; refine (poWithin _ _ _ _).mono ?_; rintro e w' ⟨rfl, rfl⟩; first | rw [HC.out] | rw [HD.out] | rw [HF.out]) | (go_at_call 53; refine (kValid _ xy).mono ?_; rw [HE.out]; rintro e w4 ⟨rfl, hb4⟩; have ho4 := HO3.out.below hb4 HO3.out.lt; have hc4 := ho4.cell; have HB4 := Lib.hid (HB3.out.trans (hb4.mono HB3.out.size)); clear ho4 hb4))
      go_ret
      exact ⟨ret_bool (by simp), HB3.out⟩

end Go.Proofs.Yteggpdhkpmkldaa
