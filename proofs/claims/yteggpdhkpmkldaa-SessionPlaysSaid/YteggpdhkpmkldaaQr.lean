import Derived.Test.YteggpdhkpmkldaaQq
namespace Go.Proofs.Yteggpdhkpmkldaa
open Go.RowKit

/-! The document's RightOrder. -/
theorem rfIn (w : World) (n lo hi : Int) : Calls Try.prog 84 #[.int .i64 n, .int .i64 lo, .int .i64 hi] w fun e w' => e = .returned (.bool (wiB n lo hi)) ∧ w = w' := by
  unfold wiB
  by_cases h1 : lo ≤ n
  · go_enter Try.func84, Try.ntmps84
    go_wp2
    go_ret
    exact ⟨ret_bool (by simp; omega), rfl⟩
  · go_enter Try.func84, Try.ntmps84
    go_wp2
    go_ret
    exact ⟨ret_bool (by simp; omega), rfl⟩

set_option maxHeartbeats 4000000 in
set_option maxRecDepth 100000 in
theorem rfRight_0 (w : World) (xk xs : Int) (xi xy : ByteArray) (xd xq xp : Int) (h1 : xk ≠ 1) (h2 : xk ≠ 2) (h3 : xk ≠ 3) : Calls Try.prog 83 #[.agg #[.int .i64 xk, .int .i64 xs, .string xi, .string xy, .int .i64 xd, .int .i64 xq, .int .i64 xp]] w fun e w' => e = .returned (.bool (roB ⟨xk, xs, xi, xy, xd, xq, xp⟩)) ∧ Below w.heap.size w w' := by
  have hr : roB ⟨xk, xs, xi, xy, xd, xq, xp⟩ = false := by simp [roB, h1, h2, h3]
  have hw : wiB xk 1 3 = false := by simp [wiB]; omega
  rw [hr]
  have HW := Lib.hid hw
  clear hr hw h1 h2 h3
  have hc := (Ob.new w 128 [.int .i64 xk, .int .i64 xs, .string xi, .string xy, .int .i64 xd, .int .i64 xq, .int .i64 xp]).cell
  go_enter Try.func83, Try.ntmps83
  go_wp2_with (go_at_call 84; refine (rfIn _ _ _ _).mono ?_; rw [HW.out]; rintro e w' ⟨rfl, rfl⟩)
  go_ret
  exact ⟨rfl, Below.alloc_set⟩

set_option maxHeartbeats 4000000 in
set_option maxRecDepth 100000 in
theorem rfRight_1 (w : World) (xs : Int) (xi xy : ByteArray) (xd xq xp : Int) (hxi : xi.size ≤ 70368744177664) (hxy : xy.size ≤ 70368744177664) : Calls Try.prog 83 #[.agg #[.int .i64 1, .int .i64 xs, .string xi, .string xy, .int .i64 xd, .int .i64 xq, .int .i64 xp]] w fun e w' => e = .returned (.bool (roB ⟨1, xs, xi, xy, xd, xq, xp⟩)) ∧ Below w.heap.size w w' := by
  obtain ⟨A, hA⟩ : ∃ A, wiB xs 1 1099511627776 = A := ⟨_, rfl⟩
  obtain ⟨B, hB⟩ : ∃ B, nameB xi = B := ⟨_, rfl⟩
  obtain ⟨E, hE⟩ : ∃ E, nameB xy = E := ⟨_, rfl⟩
  obtain ⟨F, hF⟩ : ∃ F, wiB xd 1 2 = F := ⟨_, rfl⟩
  obtain ⟨C, hC⟩ : ∃ C, wiB xq 1 1099511627776 = C := ⟨_, rfl⟩
  obtain ⟨D, hD⟩ : ∃ D, wiB xp 1 1099511627776 = D := ⟨_, rfl⟩
  have hr : roB ⟨1, xs, xi, xy, xd, xq, xp⟩ = (A && (B && ((C && D) && (E && F)))) := by simp only [roB, szB, hA, hB, hE, hF, hC, hD]; rfl
  rw [hr]
  have HW : Hid (wiB 1 1 3 = true) := Lib.hid (by decide)
  have HA := Lib.hid hA
  have HB := Lib.hid hB
  have HE := Lib.hid hE
  have HF := Lib.hid hF
  have HC := Lib.hid hC
  have HD := Lib.hid hD
  clear hr hA hB hE hF hC hD
  have hO := Ob.new w 128 [.int .i64 1, .int .i64 xs, .string xi, .string xy, .int .i64 xd, .int .i64 xq, .int .i64 xp]
  have hB0 : Below w.heap.size w (w.alloc (.cells #[.int .i64 1, .int .i64 xs, .string xi, .string xy, .int .i64 xd, .int .i64 xq, .int .i64 xp] 128)) := Below.alloc_set
  go_enter Try.func83, Try.ntmps83
  go_upto_region 1 with (fail)
  refine cutW (fun W => Ob W w.heap.size 128 [.int .i64 1, .int .i64 xs, .string xi, .string xy, .int .i64 xd, .int .i64 xq, .int .i64 xp] ∧ Below w.heap.size w W) ⟨hO, hB0⟩ ?_
  clear hO hB0
  rintro W ⟨hO, hB0⟩
  have hc := hO.cell
  have HO := Lib.hid hO
  have HB0 := Lib.hid hB0
  clear hO hB0
  cases A with
  | false =>
    go_wp2_with (first | (go_at_call 84; refine (rfIn _ _ _ _).mono ?_; (first | rw [HW.out] | rw [HA.out] | rw [HF.out] | rw [HC.out] | rw [HD.out]); rintro e w' ⟨rfl, rfl⟩) | (go_at_call 54; refine (rValid _ xi hxi).mono ?_; rw [HB.out]; rintro e w3 ⟨rfl, hb3⟩; have ho3 := HO.out.below hb3 HO.out.lt; have hc3 := ho3.cell; have HO3 := Lib.hid ho3; have HB3 := Lib.hid (HB0.out.trans (hb3.mono HB0.out.size)); clear ho3 hb3))
    go_ret
    exact ⟨ret_bool (by simp), HB0.out⟩
  | true =>
  cases B with
  | false =>
    go_wp2_with (first | (go_at_call 84; refine (rfIn _ _ _ _).mono ?_; (first | rw [HW.out] | rw [HA.out] | rw [HF.out] | rw [HC.out] | rw [HD.out]); rintro e w' ⟨rfl, rfl⟩) | (go_at_call 54; refine (rValid _ xi hxi).mono ?_; rw [HB.out]; rintro e w3 ⟨rfl, hb3⟩; have ho3 := HO.out.below hb3 HO.out.lt; have hc3 := ho3.cell; have HO3 := Lib.hid ho3; have HB3 := Lib.hid (HB0.out.trans (hb3.mono HB0.out.size)); clear ho3 hb3))
    go_ret
    exact ⟨ret_bool (by simp), HB3.out⟩
  | true =>
  go_upto_region 3 with (first | (go_at_call 84; refine (rfIn _ _ _ _).mono ?_; (first | rw [HW.out] | rw [HA.out] | rw [HF.out] | rw [HC.out] | rw [HD.out]); rintro e w' ⟨rfl, rfl⟩) | (go_at_call 54; refine (rValid _ xi hxi).mono ?_; rw [HB.out]; rintro e w3 ⟨rfl, hb3⟩; have ho3 := HO.out.below hb3 HO.out.lt; have hc3 := ho3.cell; have HO3 := Lib.hid ho3; have HB3 := Lib.hid (HB0.out.trans (hb3.mono HB0.out.size)); clear ho3 hb3))
  refine cutW (fun W => Ob W w.heap.size 128 [.int .i64 1, .int .i64 xs, .string xi, .string xy, .int .i64 xd, .int .i64 xq, .int .i64 xp] ∧ Below w.heap.size w W) ⟨HO3.out, HB3.out⟩ ?_
  clear HO HB0 hc hc3 HO3 HB3
  rintro W3 ⟨hO, hB0⟩
  have hc := hO.cell
  have HO := Lib.hid hO
  have HB0 := Lib.hid hB0
  clear hO hB0
  cases E with
  | false =>
    go_wp2_with (first | (go_at_call 84; refine (rfIn _ _ _ _).mono ?_; (first | rw [HW.out] | rw [HA.out] | rw [HF.out] | rw [HC.out] | rw [HD.out]); rintro e w' ⟨rfl, rfl⟩) | (go_at_call 54; refine (rValid _ xy hxy).mono ?_; rw [HE.out]; rintro e w3 ⟨rfl, hb3⟩; have ho3 := HO.out.below hb3 HO.out.lt; have hc3 := ho3.cell; have HO3 := Lib.hid ho3; have HB3 := Lib.hid (HB0.out.trans (hb3.mono HB0.out.size)); clear ho3 hb3))
    go_ret
    exact ⟨ret_bool (by simp), HB3.out⟩
  | true =>
  cases F with
  | false =>
    go_wp2_with (first | (go_at_call 84; refine (rfIn _ _ _ _).mono ?_; (first | rw [HW.out] | rw [HA.out] | rw [HF.out] | rw [HC.out] | rw [HD.out]); rintro e w' ⟨rfl, rfl⟩) | (go_at_call 54; refine (rValid _ xy hxy).mono ?_; rw [HE.out]; rintro e w3 ⟨rfl, hb3⟩; have ho3 := HO.out.below hb3 HO.out.lt; have hc3 := ho3.cell; have HO3 := Lib.hid ho3; have HB3 := Lib.hid (HB0.out.trans (hb3.mono HB0.out.size)); clear ho3 hb3))
    go_ret
    exact ⟨ret_bool (by simp), HB3.out⟩
  | true =>
  cases C with
  | false =>
    go_wp2_with (first | (go_at_call 84; refine (rfIn _ _ _ _).mono ?_; (first | rw [HW.out] | rw [HA.out] | rw [HF.out] | rw [HC.out] | rw [HD.out]); rintro e w' ⟨rfl, rfl⟩) | (go_at_call 54; refine (rValid _ xy hxy).mono ?_; rw [HE.out]; rintro e w3 ⟨rfl, hb3⟩; have ho3 := HO.out.below hb3 HO.out.lt; have hc3 := ho3.cell; have HO3 := Lib.hid ho3; have HB3 := Lib.hid (HB0.out.trans (hb3.mono HB0.out.size)); clear ho3 hb3))
    go_ret
    exact ⟨ret_bool (by simp), HB3.out⟩
  | true =>
  go_wp2_with (first | (go_at_call 84; refine (rfIn _ _ _ _).mono ?_; (first | rw [HW.out] | rw [HA.out] | rw [HF.out] | rw [HC.out] | rw [HD.out]); rintro e w' ⟨rfl, rfl⟩) | (go_at_call 54; refine (rValid _ xy hxy).mono ?_; rw [HE.out]; rintro e w3 ⟨rfl, hb3⟩; have ho3 := HO.out.below hb3 HO.out.lt; have hc3 := ho3.cell; have HO3 := Lib.hid ho3; have HB3 := Lib.hid (HB0.out.trans (hb3.mono HB0.out.size)); clear ho3 hb3))
  go_ret
  exact ⟨ret_bool (by simp), HB3.out⟩

set_option maxHeartbeats 4000000 in
set_option maxRecDepth 100000 in
theorem rfRight_2 (w : World) (xs : Int) (xi xy : ByteArray) (xd xq xp : Int) (hxi : xi.size ≤ 70368744177664) (hxy : xy.size ≤ 70368744177664) : Calls Try.prog 83 #[.agg #[.int .i64 2, .int .i64 xs, .string xi, .string xy, .int .i64 xd, .int .i64 xq, .int .i64 xp]] w fun e w' => e = .returned (.bool (roB ⟨2, xs, xi, xy, xd, xq, xp⟩)) ∧ Below w.heap.size w w' := by
  obtain ⟨A, hA⟩ : ∃ A, wiB xs 1 1099511627776 = A := ⟨_, rfl⟩
  obtain ⟨B, hB⟩ : ∃ B, nameB xi = B := ⟨_, rfl⟩
  obtain ⟨G, hG⟩ : ∃ G, emB xy = G := ⟨_, rfl⟩
  obtain ⟨G2, hG2⟩ : ∃ G2, (xd == 0) = G2 := ⟨_, rfl⟩
  obtain ⟨G3, hG3⟩ : ∃ G3, (xq == 0) = G3 := ⟨_, rfl⟩
  obtain ⟨G4, hG4⟩ : ∃ G4, (xp == 0) = G4 := ⟨_, rfl⟩
  have hr : roB ⟨2, xs, xi, xy, xd, xq, xp⟩ = (A && (B && (G && (G2 && (G3 && G4))))) := by simp only [roB, szB, hA, hB, hG, hG2, hG3, hG4]; rfl
  rw [hr]
  have HW : Hid (wiB 2 1 3 = true) := Lib.hid (by decide)
  have HA := Lib.hid hA
  have HB := Lib.hid hB
  have HG := Lib.hid hG
  have HG2 := Lib.hid hG2
  have HG3 := Lib.hid hG3
  have HG4 := Lib.hid hG4
  clear hr hA hB hG hG2 hG3 hG4
  have hO := Ob.new w 128 [.int .i64 2, .int .i64 xs, .string xi, .string xy, .int .i64 xd, .int .i64 xq, .int .i64 xp]
  have hB0 : Below w.heap.size w (w.alloc (.cells #[.int .i64 2, .int .i64 xs, .string xi, .string xy, .int .i64 xd, .int .i64 xq, .int .i64 xp] 128)) := Below.alloc_set
  go_enter Try.func83, Try.ntmps83
  go_upto_region 1 with (fail)
  refine cutW (fun W => Ob W w.heap.size 128 [.int .i64 2, .int .i64 xs, .string xi, .string xy, .int .i64 xd, .int .i64 xq, .int .i64 xp] ∧ Below w.heap.size w W) ⟨hO, hB0⟩ ?_
  clear hO hB0
  rintro W ⟨hO, hB0⟩
  have hc := hO.cell
  have HO := Lib.hid hO
  have HB0 := Lib.hid hB0
  clear hO hB0
  cases A with
  | false =>
    go_wp2_with (first | (go_at_call 84; refine (rfIn _ _ _ _).mono ?_; (first | rw [HW.out] | rw [HA.out]); rintro e w' ⟨rfl, rfl⟩) | (go_at_call 54; refine (rValid _ xi hxi).mono ?_; rw [HB.out]; rintro e w3 ⟨rfl, hb3⟩; have ho3 := HO.out.below hb3 HO.out.lt; have hc3 := ho3.cell; have HO3 := Lib.hid ho3; have HB3 := Lib.hid (HB0.out.trans (hb3.mono HB0.out.size)); clear ho3 hb3))
    go_ret
    exact ⟨ret_bool (by simp), HB0.out⟩
  | true =>
  cases B with
  | false =>
    go_wp2_with (first | (go_at_call 84; refine (rfIn _ _ _ _).mono ?_; (first | rw [HW.out] | rw [HA.out]); rintro e w' ⟨rfl, rfl⟩) | (go_at_call 54; refine (rValid _ xi hxi).mono ?_; rw [HB.out]; rintro e w3 ⟨rfl, hb3⟩; have ho3 := HO.out.below hb3 HO.out.lt; have hc3 := ho3.cell; have HO3 := Lib.hid ho3; have HB3 := Lib.hid (HB0.out.trans (hb3.mono HB0.out.size)); clear ho3 hb3))
    go_ret
    exact ⟨ret_bool (by simp), HB3.out⟩
  | true =>
  go_upto_region 3 with (first | (go_at_call 84; refine (rfIn _ _ _ _).mono ?_; (first | rw [HW.out] | rw [HA.out]); rintro e w' ⟨rfl, rfl⟩) | (go_at_call 54; refine (rValid _ xi hxi).mono ?_; rw [HB.out]; rintro e w3 ⟨rfl, hb3⟩; have ho3 := HO.out.below hb3 HO.out.lt; have hc3 := ho3.cell; have HO3 := Lib.hid ho3; have HB3 := Lib.hid (HB0.out.trans (hb3.mono HB0.out.size)); clear ho3 hb3))
  refine cutW (fun W => Ob W w.heap.size 128 [.int .i64 2, .int .i64 xs, .string xi, .string xy, .int .i64 xd, .int .i64 xq, .int .i64 xp] ∧ Below w.heap.size w W) ⟨HO3.out, HB3.out⟩ ?_
  clear HO HB0 hc hc3 HO3 HB3
  rintro W3 ⟨hO, hB0⟩
  have hc := hO.cell
  have HO := Lib.hid hO
  have HB0 := Lib.hid hB0
  clear hO hB0
  cases G with
  | false =>
    have heb : (xy.toList == []) = false := HG.out
    have hen : ¬ xy.toList = [] := by simpa using heb
    go_wp2_with (first | (go_at_call 84; refine (rfIn _ _ _ _).mono ?_; (first | rw [HW.out] | rw [HA.out]); rintro e w' ⟨rfl, rfl⟩) | (go_at_call 54; refine (rValid _ xi hxi).mono ?_; rw [HB.out]; rintro e w3 ⟨rfl, hb3⟩; have ho3 := HO.out.below hb3 HO.out.lt; have hc3 := ho3.cell; have HO3 := Lib.hid ho3; have HB3 := Lib.hid (HB0.out.trans (hb3.mono HB0.out.size)); clear ho3 hb3))
    go_ret
    exact ⟨ret_bool (by simp), HB0.out⟩
  | true =>
  have heb : xy.toList = [] := by simpa [emB] using HG.out
  have hd2 := HG2.out
  cases G2 with
  | false =>
    go_wp2_with (first | (go_at_call 84; refine (rfIn _ _ _ _).mono ?_; (first | rw [HW.out] | rw [HA.out]); rintro e w' ⟨rfl, rfl⟩) | (go_at_call 54; refine (rValid _ xi hxi).mono ?_; rw [HB.out]; rintro e w3 ⟨rfl, hb3⟩; have ho3 := HO.out.below hb3 HO.out.lt; have hc3 := ho3.cell; have HO3 := Lib.hid ho3; have HB3 := Lib.hid (HB0.out.trans (hb3.mono HB0.out.size)); clear ho3 hb3))
    go_ret
    exact ⟨ret_bool (by simp), HB0.out⟩
  | true =>
  have hd3 := HG3.out
  have hd4 := HG4.out
  cases G3 with
  | false =>
    go_wp2_with (first | (go_at_call 84; refine (rfIn _ _ _ _).mono ?_; (first | rw [HW.out] | rw [HA.out]); rintro e w' ⟨rfl, rfl⟩) | (go_at_call 54; refine (rValid _ xi hxi).mono ?_; rw [HB.out]; rintro e w3 ⟨rfl, hb3⟩; have ho3 := HO.out.below hb3 HO.out.lt; have hc3 := ho3.cell; have HO3 := Lib.hid ho3; have HB3 := Lib.hid (HB0.out.trans (hb3.mono HB0.out.size)); clear ho3 hb3))
    go_ret
    exact ⟨ret_bool (by simp), HB0.out⟩
  | true =>
  go_wp2_with (first | (go_at_call 84; refine (rfIn _ _ _ _).mono ?_; (first | rw [HW.out] | rw [HA.out]); rintro e w' ⟨rfl, rfl⟩) | (go_at_call 54; refine (rValid _ xi hxi).mono ?_; rw [HB.out]; rintro e w3 ⟨rfl, hb3⟩; have ho3 := HO.out.below hb3 HO.out.lt; have hc3 := ho3.cell; have HO3 := Lib.hid ho3; have HB3 := Lib.hid (HB0.out.trans (hb3.mono HB0.out.size)); clear ho3 hb3))
  go_ret
  exact ⟨ret_bool (by simp), HB0.out⟩

set_option maxHeartbeats 4000000 in
set_option maxRecDepth 100000 in
theorem rfRight_3 (w : World) (xs : Int) (xi xy : ByteArray) (xd xq xp : Int) (hxi : xi.size ≤ 70368744177664) (hxy : xy.size ≤ 70368744177664) : Calls Try.prog 83 #[.agg #[.int .i64 3, .int .i64 xs, .string xi, .string xy, .int .i64 xd, .int .i64 xq, .int .i64 xp]] w fun e w' => e = .returned (.bool (roB ⟨3, xs, xi, xy, xd, xq, xp⟩)) ∧ Below w.heap.size w w' := by
  obtain ⟨A, hA⟩ : ∃ A, wiB xs 1 1099511627776 = A := ⟨_, rfl⟩
  obtain ⟨B, hB⟩ : ∃ B, nameB xi = B := ⟨_, rfl⟩
  obtain ⟨G, hG⟩ : ∃ G, emB xy = G := ⟨_, rfl⟩
  obtain ⟨G2, hG2⟩ : ∃ G2, (xd == 0) = G2 := ⟨_, rfl⟩
  obtain ⟨C, hC⟩ : ∃ C, wiB xq 1 1099511627776 = C := ⟨_, rfl⟩
  obtain ⟨D, hD⟩ : ∃ D, wiB xp 1 1099511627776 = D := ⟨_, rfl⟩
  have hr : roB ⟨3, xs, xi, xy, xd, xq, xp⟩ = (A && (B && ((C && D) && (G && G2)))) := by simp only [roB, szB, hA, hB, hG, hG2, hC, hD]; rfl
  rw [hr]
  have HW : Hid (wiB 3 1 3 = true) := Lib.hid (by decide)
  have HA := Lib.hid hA
  have HB := Lib.hid hB
  have HG := Lib.hid hG
  have HG2 := Lib.hid hG2
  have HC := Lib.hid hC
  have HD := Lib.hid hD
  clear hr hA hB hG hG2 hC hD
  have hO := Ob.new w 128 [.int .i64 3, .int .i64 xs, .string xi, .string xy, .int .i64 xd, .int .i64 xq, .int .i64 xp]
  have hB0 : Below w.heap.size w (w.alloc (.cells #[.int .i64 3, .int .i64 xs, .string xi, .string xy, .int .i64 xd, .int .i64 xq, .int .i64 xp] 128)) := Below.alloc_set
  go_enter Try.func83, Try.ntmps83
  go_upto_region 1 with (fail)
  refine cutW (fun W => Ob W w.heap.size 128 [.int .i64 3, .int .i64 xs, .string xi, .string xy, .int .i64 xd, .int .i64 xq, .int .i64 xp] ∧ Below w.heap.size w W) ⟨hO, hB0⟩ ?_
  clear hO hB0
  rintro W ⟨hO, hB0⟩
  have hc := hO.cell
  have HO := Lib.hid hO
  have HB0 := Lib.hid hB0
  clear hO hB0
  cases A with
  | false =>
    go_wp2_with (first | (go_at_call 84; refine (rfIn _ _ _ _).mono ?_; (first | rw [HW.out] | rw [HA.out] | rw [HC.out] | rw [HD.out]); rintro e w' ⟨rfl, rfl⟩) | (go_at_call 54; refine (rValid _ xi hxi).mono ?_; rw [HB.out]; rintro e w3 ⟨rfl, hb3⟩; have ho3 := HO.out.below hb3 HO.out.lt; have hc3 := ho3.cell; have HO3 := Lib.hid ho3; have HB3 := Lib.hid (HB0.out.trans (hb3.mono HB0.out.size)); clear ho3 hb3))
    go_ret
    exact ⟨ret_bool (by simp), HB0.out⟩
  | true =>
  cases B with
  | false =>
    go_wp2_with (first | (go_at_call 84; refine (rfIn _ _ _ _).mono ?_; (first | rw [HW.out] | rw [HA.out] | rw [HC.out] | rw [HD.out]); rintro e w' ⟨rfl, rfl⟩) | (go_at_call 54; refine (rValid _ xi hxi).mono ?_; rw [HB.out]; rintro e w3 ⟨rfl, hb3⟩; have ho3 := HO.out.below hb3 HO.out.lt; have hc3 := ho3.cell; have HO3 := Lib.hid ho3; have HB3 := Lib.hid (HB0.out.trans (hb3.mono HB0.out.size)); clear ho3 hb3))
    go_ret
    exact ⟨ret_bool (by simp), HB3.out⟩
  | true =>
  go_upto_region 3 with (first | (go_at_call 84; refine (rfIn _ _ _ _).mono ?_; (first | rw [HW.out] | rw [HA.out] | rw [HC.out] | rw [HD.out]); rintro e w' ⟨rfl, rfl⟩) | (go_at_call 54; refine (rValid _ xi hxi).mono ?_; rw [HB.out]; rintro e w3 ⟨rfl, hb3⟩; have ho3 := HO.out.below hb3 HO.out.lt; have hc3 := ho3.cell; have HO3 := Lib.hid ho3; have HB3 := Lib.hid (HB0.out.trans (hb3.mono HB0.out.size)); clear ho3 hb3))
  refine cutW (fun W => Ob W w.heap.size 128 [.int .i64 3, .int .i64 xs, .string xi, .string xy, .int .i64 xd, .int .i64 xq, .int .i64 xp] ∧ Below w.heap.size w W) ⟨HO3.out, HB3.out⟩ ?_
  clear HO HB0 hc hc3 HO3 HB3
  rintro W3 ⟨hO, hB0⟩
  have hc := hO.cell
  have HO := Lib.hid hO
  have HB0 := Lib.hid hB0
  clear hO hB0
  cases G with
  | false =>
    have heb : (xy.toList == []) = false := HG.out
    have hen : ¬ xy.toList = [] := by simpa using heb
    go_wp2_with (first | (go_at_call 84; refine (rfIn _ _ _ _).mono ?_; (first | rw [HW.out] | rw [HA.out] | rw [HC.out] | rw [HD.out]); rintro e w' ⟨rfl, rfl⟩) | (go_at_call 54; refine (rValid _ xi hxi).mono ?_; rw [HB.out]; rintro e w3 ⟨rfl, hb3⟩; have ho3 := HO.out.below hb3 HO.out.lt; have hc3 := ho3.cell; have HO3 := Lib.hid ho3; have HB3 := Lib.hid (HB0.out.trans (hb3.mono HB0.out.size)); clear ho3 hb3))
    go_ret
    exact ⟨ret_bool (by simp), HB0.out⟩
  | true =>
  have heb : xy.toList = [] := by simpa [emB] using HG.out
  have hd2 := HG2.out
  cases G2 with
  | false =>
    go_wp2_with (first | (go_at_call 84; refine (rfIn _ _ _ _).mono ?_; (first | rw [HW.out] | rw [HA.out] | rw [HC.out] | rw [HD.out]); rintro e w' ⟨rfl, rfl⟩) | (go_at_call 54; refine (rValid _ xi hxi).mono ?_; rw [HB.out]; rintro e w3 ⟨rfl, hb3⟩; have ho3 := HO.out.below hb3 HO.out.lt; have hc3 := ho3.cell; have HO3 := Lib.hid ho3; have HB3 := Lib.hid (HB0.out.trans (hb3.mono HB0.out.size)); clear ho3 hb3))
    go_ret
    exact ⟨ret_bool (by simp), HB0.out⟩
  | true =>
  cases C with
  | false =>
    go_wp2_with (first | (go_at_call 84; refine (rfIn _ _ _ _).mono ?_; (first | rw [HW.out] | rw [HA.out] | rw [HC.out] | rw [HD.out]); rintro e w' ⟨rfl, rfl⟩) | (go_at_call 54; refine (rValid _ xi hxi).mono ?_; rw [HB.out]; rintro e w3 ⟨rfl, hb3⟩; have ho3 := HO.out.below hb3 HO.out.lt; have hc3 := ho3.cell; have HO3 := Lib.hid ho3; have HB3 := Lib.hid (HB0.out.trans (hb3.mono HB0.out.size)); clear ho3 hb3))
    go_ret
    exact ⟨ret_bool (by simp), HB0.out⟩
  | true =>
  go_wp2_with (first | (go_at_call 84; refine (rfIn _ _ _ _).mono ?_; (first | rw [HW.out] | rw [HA.out] | rw [HC.out] | rw [HD.out]); rintro e w' ⟨rfl, rfl⟩) | (go_at_call 54; refine (rValid _ xi hxi).mono ?_; rw [HB.out]; rintro e w3 ⟨rfl, hb3⟩; have ho3 := HO.out.below hb3 HO.out.lt; have hc3 := ho3.cell; have HO3 := Lib.hid ho3; have HB3 := Lib.hid (HB0.out.trans (hb3.mono HB0.out.size)); clear ho3 hb3))
  go_ret
  exact ⟨ret_bool (by simp), HB0.out⟩

theorem rfRight (w : World) (x : Od) (hxi : x.id.size ≤ 70368744177664) (hxy : x.sy.size ≤ 70368744177664) : Calls Try.prog 83 #[x.agg] w fun e w' => e = .returned (.bool (roB x)) ∧ Below w.heap.size w w' := by
  obtain ⟨k, s, i, y, d, q, p⟩ := x
  by_cases h1 : k = 1
  · subst h1; exact rfRight_1 w s i y d q p hxi hxy
  by_cases h2 : k = 2
  · subst h2; exact rfRight_2 w s i y d q p hxi hxy
  by_cases h3 : k = 3
  · subst h3; exact rfRight_3 w s i y d q p hxi hxy
  exact rfRight_0 w k s i y d q p h1 h2 h3

end Go.Proofs.Yteggpdhkpmkldaa
