import Derived.Test.YtjhlaifflhjafaaPm
namespace Go.Proofs.Ytjhlaifflhjafaa
open Go.RowKit Go.Sort

theorem regrown_modsP {P : Program} {f : FuncId} {args : Array Value} {w : World} {p : Regrown} {v : Value}
    (h : Calls P f args (grow (redrawn w p.d) p.os) fun e w' => e = .returned v ∧ Below (grow (redrawn w p.d) p.os).heap.size (grow (redrawn w p.d) p.os) w') : Calls P f args (grow (redrawn w p.d) p.os) fun e w'' => e = .returned v ∧ ∃ q : Regrown, w'' = grow (redrawn w q.d) q.os :=
  Calls.regrown_of h


set_option maxHeartbeats 6400000 in
set_option maxRecDepth 100000 in
theorem told45 (w W : World) (mb rb : Nat) (v0 v1 v : Value) (S : Sd) (L : List Ro) (h : PlAt w W mb rb v0 v1 v S L) (hi : MbI S) (hs : RSim S L) (kd : Int) (nm : ByteArray) (sd qt pr : Int) :
    Calls Try.prog 45 #[.pointer (some ⟨mb, 0, none⟩), .pointer (some ⟨rb, 0, none⟩), .agg #[.int .i64 kd, .string nm, .int .i64 sd, .int .i64 qt, .int .i64 pr]] W fun e W' => Step w W mb rb v0 v1 v S L e W' := by
  have hob := hs.b hi
  have hlen := hs.len
  have hleft := hs.left nm
  have H := Lib.hid h
  have HI := Lib.hid hi
  have HSi := Lib.hid hs
  have HOB := Lib.hid hob
  have HLen := Lib.hid hlen
  have HLeft := Lib.hid hleft
  have HSt : Hid (∀ W', Below W.heap.size W W' → Step w W mb rb v0 v1 v S L (.returned (.bool true)) W') := Lib.hid (fun W' hB => ⟨rfl, ⟨v0, v1, v, h.below hB⟩, Below.mods_ hB _⟩)
  clear h hi hs hob hlen hleft
  go_enter Try.func45, Try.ntmps45
  go_upto_region 1 with (fail)
  have hO := Ob.new W 90 [.int .i64 kd, .string nm, .int .i64 sd, .int .i64 qt, .int .i64 pr]
  refine cutW (fun V => Ob V W.heap.size 90 [.int .i64 kd, .string nm, .int .i64 sd, .int .i64 qt, .int .i64 pr] ∧ PlAt w V mb rb v0 v1 v S L ∧ Below W.heap.size W V) ⟨hO, H.out.below Below.alloc_set, Below.alloc_set⟩ ?_
  clear hO
  rintro V ⟨hO, hP, hBV⟩
  generalize W.heap.size = N at *
  have hoc := hO.cell
  have HO := Lib.hid hO
  have HP := Lib.hid hP
  have HBV := Lib.hid hBV
  have h48 := mo48 V mb v0 v1 S hP.m nm
  have H48 := Lib.hid h48
  clear hO hP hBV h48
  go_upto_region 2 with (go_at_call 48; refine H48.out.mono ?_; rintro e V1 ⟨rfl, hb1⟩)
  have hoc1 := (HO.out.below hb1 HO.out.lt).cell
  have HP1 := Lib.hid (HP.out.below hb1)
  have HB1 := Lib.hid (HBV.out.trans (hb1.mono (by have := HBV.out.size; have := HO.out.lt; omega)))
  have HNV := Lib.hid (show N ≤ V1.heap.size by have := HO.out.lt; have := hb1.size; omega)
  have h79 := rb79 V1 rb v L HP1.out.r nm
  have H79 := Lib.hid h79
  clear hoc hb1 HO HP HBV H48 h79
  obtain ⟨n, hn⟩ : ∃ n, L.length = n := ⟨_, rfl⟩
  rw [hn] at HLen H79
  have HNN := Lib.hid hn
  have hc1 := HP1.out.r.ho.cell
  obtain ⟨A, c, hv⟩ := HP1.out.r.shape
  rw [hn] at hv
  have HV := Lib.hid hv
  rw [hv] at hc1
  have hcalls : ∀ q : Regrown, Calls Try.prog 36 #[.pointer (some ⟨mb, 0, none⟩)] (grow (redrawn V1 q.d) q.os) fun e w' => e = .returned (.int .i64 (n : Int)) ∧ ∃ q : Regrown, w' = grow (redrawn V1 q.d) q.os := fun q => by
    have h1 := mo36 _ mb v0 v1 S (HP1.out.m.below (below_regrown V1 q.d q.os))
    rw [HLen.out] at h1
    exact regrown_modsP h1
  have HCalls := Lib.hid hcalls
  have hr0 : ∀ q : Regrown, (grow (redrawn V1 q.d) q.os).cell? ⟨rb, 0, none⟩ = some (.slice A n c) := fun q => cell_regrown (hc1 0) q.d q.os
  clear hcalls hv hn
  cases ho : L[rIdx L nm]? with
  | none =>
    have hf : ¬ rIdx L nm < n := by have := List.getElem?_eq_none_iff.1 ho; have := HNN.out; omega
    have e1 : frI (rIdx L nm) n = -1 := if_neg hf
    have hl := HLeft.out
    rw [ho] at hl
    simp only at hl
    rw [e1] at H79
    rw [hl]
    clear ho hf e1 hl HLeft
    go_upto_region 6 with (go_at_call 79; refine H79.out.mono ?_; rintro e V2 ⟨rfl, rfl⟩)
    have hnn : ((n : Int) != (n : Int)) = false := by simp
    refine wp_region_quiet_below (by kernel_rfl) (by kernel_rfl) ?_
    repeat (go_big_quiet_step ((go_at_call 36; exact HCalls.out _)))
    refine wpQuiet_nil ?_
    intro W2 hW2
    have hB2 : Below V1.heap.size V1 W2 := by obtain ⟨q, rfl⟩ := hW2; exact below_regrown V1 q.d q.os
    have HP2 := Lib.hid (HP1.out.below hB2)
    have HB2 := Lib.hid (HB1.out.trans (hB2.mono HNV.out))
    have HNW := Lib.hid (Nat.le_trans HNV.out hB2.size)
    clear hW2 hB2 hc1 hoc1 hr0 HCalls HP1 HB1 H79 hnn
    go_wp2_with fail
    go_loopw [56] (fun i wr => ∃ k : Nat, k ≤ 4 ∧ i = .int .i64 k ∧ Below W2.heap.size W2 wr) (fun i _ => 4 - (intOf i).toNat)
    case atStart => exact ⟨0, by omega, rfl, Below.refl _ _⟩
    case round =>
      obtain ⟨k, hk, rfl, hBw⟩ := hrel
      have HBw := Lib.hid hBw
      clear hBw
      have HPw := Lib.hid (HP2.out.below HBw.out)
      rcases (show k = 0 ∨ k = 1 ∨ k = 2 ∨ k = 3 ∨ k = 4 by omega) with rfl | rfl | rfl | rfl | rfl
      · have hbad := mo49_bad wr mb 0 (by decide)
        have HBad := Lib.hid hbad
        clear hbad
        have hw1 : ((0 : Nat) : Int) = 0 := rfl
        rw [hw1]
        clear hw1
        go_wp2_with (go_at_call 49; refine HBad.out.mono ?_; rintro e w5 ⟨rfl, rfl⟩)
        go_loopw [78] (fun i wx => i = .int .i64 0 ∧ Below wr.heap.size wr wx) (fun _ _ => 0)
        case atStart => exact ⟨rfl, Below.refl _ _⟩
        case round =>
          obtain ⟨rfl, hBx⟩ := hrel
          go_wp2_with fail
          go_roundw
          case rel => exact ⟨1, by omega, by go_num, HBw.out.trans (hBx.mono HBw.out.size)⟩
          case measure => simp [intOf]
      · have hS := HSi.out
        have hd1 := mo49_0 wr mb v0 v1 S HPw.out.m (fun x hx => ⟨HI.out.ok.b1 x hx, HI.out.p1 x hx⟩)
        rw [hS.s1] at hd1
        have HD1 := Lib.hid hd1
        clear hd1 hS
        obtain ⟨M, hMe⟩ : ∃ M, depthM (sideOf 1 L) = M := ⟨_, rfl⟩
        rw [hMe] at HD1
        have HMe := Lib.hid hMe
        clear hMe
        obtain ⟨m, hm⟩ : ∃ m, M.length = m := ⟨_, rfl⟩
        rw [hm] at HD1
        have HM := Lib.hid hm
        clear hm
        have hw1 : ((1 : Nat) : Int) = 1 := rfl
        rw [hw1]
        clear hw1
        go_wp2_with fail
        refine HD1.out.mono ?_
        rintro e w5 ⟨vd, rfl, hd, hb5⟩
        have HP5 := Lib.hid (HPw.out.below hb5)
        obtain ⟨A1, c1, rfl, hR1, -, -⟩ := own_shape hd
        have HR1 := Lib.hid hR1
        have HB5 := Lib.hid (HBw.out.trans (hb5.mono HBw.out.size))
        clear hd hb5 hR1 HD1 HPw HBw
        have h80 := rb80_1 w5 rb v L HP5.out.r HOB.out
        rw [HMe.out, HM.out] at h80
        have H80 := Lib.hid h80
        clear h80
        go_wp2_with fail
        refine H80.out.mono ?_
        rintro e w6 ⟨vl, rfl, hl, hb6⟩
        obtain ⟨A2, c2, rfl, hR2, -, -⟩ := own_shape hl
        have HR1' := Lib.hid (HR1.out.below hb6)
        have HR2 := Lib.hid hR2
        have HB6 := Lib.hid (HB5.out.trans (hb6.mono HB5.out.size))
        clear hl hb6 hR2 H80 HP5 HB5 HR1
        have hmm : ((m : Int) != (m : Int)) = false := by simp
        have h9m := HR2.out.2.1
        go_wp2_with fail
        · go_loopw [78] (fun i wx => ∃ j : Nat, j ≤ m ∧ i = .int .i64 j ∧ Below w6.heap.size w6 wx) (fun i _ => m - (intOf i).toNat)
          case atStart => exact ⟨0, by omega, rfl, Below.refl _ _⟩
          case round =>
            obtain ⟨j, hj, rfl, hBx⟩ := hrel
            have HBx := Lib.hid hBx
            clear hBx
            by_cases hjm : j < m
            · obtain ⟨x, hx⟩ : ∃ x, M[j]? = some x := ⟨_, List.getElem?_eq_getElem (by rw [HM.out]; exact hjm)⟩
              obtain ⟨g1, o1, rfl, p1, p2, p3⟩ := lv_cells (HR1'.out.below HBx.out) hjm hx
              have HX := Lib.hid hx
              clear hx
              go_upto_region 20 with (fail)
              have hO := Ob.new wr 104 [.int .i64 x.price, .int .i64 x.qty, .int .i64 x.orders]
              refine cutW (fun Y => Ob Y wr.heap.size 104 [.int .i64 x.price, .int .i64 x.qty, .int .i64 x.orders] ∧ Below w6.heap.size w6 Y) ⟨hO, HBx.out.trans ((Below.alloc_set : Below wr.heap.size wr _).mono HBx.out.size)⟩ ?_
              clear hO HBx p1 p2 p3
              generalize wr.heap.size = N2 at *
              rintro Y ⟨hO, hBY⟩
              have hoc := hO.cell
              obtain ⟨g2, o2, rfl, y1, y2, y3⟩ := lv_cells (HR2.out.below hBY) hjm HX.out
              have HBY := Lib.hid hBY
              have hne := ne132_same x.price x.qty x.orders
              have hg := guard132
              clear hO hBY
              go_quiet (fail)
              go_upto_region 22 with (fail)
              refine cutW (fun Y => Below w6.heap.size w6 Y) (Below.drewN HBY.out _) ?_
              clear hoc y1 y2 y3 HBY hne Y
              rintro Y hBY
              have HBY := Lib.hid hBY
              clear hBY
              go_wp2_with fail
              go_roundw
              case rel => exact ⟨j + 1, by omega, by go_num, HBY.out⟩
              case measure => simp [intOf]; omega
            · obtain rfl : j = m := by omega
              go_wp2_with fail
              go_roundw
              case rel => exact ⟨2, by omega, by go_num, HB6.out.trans (HBx.out.mono HB6.out.size)⟩
              case measure => simp [intOf]
      · have hS := HSi.out
        have hd1 := mo49_1 wr mb v0 v1 S HPw.out.m (fun x hx => ⟨HI.out.ok.b2 x hx, HI.out.p2 x hx⟩)
        rw [hS.s2] at hd1
        have HD1 := Lib.hid hd1
        clear hd1 hS
        obtain ⟨M, hMe⟩ : ∃ M, depthM (sideOf 2 L) = M := ⟨_, rfl⟩
        rw [hMe] at HD1
        have HMe := Lib.hid hMe
        clear hMe
        obtain ⟨m, hm⟩ : ∃ m, M.length = m := ⟨_, rfl⟩
        rw [hm] at HD1
        have HM := Lib.hid hm
        clear hm
        have hw1 : ((2 : Nat) : Int) = 2 := rfl
        rw [hw1]
        clear hw1
        go_wp2_with fail
        refine HD1.out.mono ?_
        rintro e w5 ⟨vd, rfl, hd, hb5⟩
        have HP5 := Lib.hid (HPw.out.below hb5)
        obtain ⟨A1, c1, rfl, hR1, -, -⟩ := own_shape hd
        have HR1 := Lib.hid hR1
        have HB5 := Lib.hid (HBw.out.trans (hb5.mono HBw.out.size))
        clear hd hb5 hR1 HD1 HPw HBw
        have h80 := rb80_2 w5 rb v L HP5.out.r HOB.out
        rw [HMe.out, HM.out] at h80
        have H80 := Lib.hid h80
        clear h80
        go_wp2_with fail
        refine H80.out.mono ?_
        rintro e w6 ⟨vl, rfl, hl, hb6⟩
        obtain ⟨A2, c2, rfl, hR2, -, -⟩ := own_shape hl
        have HR1' := Lib.hid (HR1.out.below hb6)
        have HR2 := Lib.hid hR2
        have HB6 := Lib.hid (HB5.out.trans (hb6.mono HB5.out.size))
        clear hl hb6 hR2 H80 HP5 HB5 HR1
        have hmm : ((m : Int) != (m : Int)) = false := by simp
        have h9m := HR2.out.2.1
        go_wp2_with fail
        · go_loopw [78] (fun i wx => ∃ j : Nat, j ≤ m ∧ i = .int .i64 j ∧ Below w6.heap.size w6 wx) (fun i _ => m - (intOf i).toNat)
          case atStart => exact ⟨0, by omega, rfl, Below.refl _ _⟩
          case round =>
            obtain ⟨j, hj, rfl, hBx⟩ := hrel
            have HBx := Lib.hid hBx
            clear hBx
            by_cases hjm : j < m
            · obtain ⟨x, hx⟩ : ∃ x, M[j]? = some x := ⟨_, List.getElem?_eq_getElem (by rw [HM.out]; exact hjm)⟩
              obtain ⟨g1, o1, rfl, p1, p2, p3⟩ := lv_cells (HR1'.out.below HBx.out) hjm hx
              have HX := Lib.hid hx
              clear hx
              go_upto_region 20 with (fail)
              have hO := Ob.new wr 104 [.int .i64 x.price, .int .i64 x.qty, .int .i64 x.orders]
              refine cutW (fun Y => Ob Y wr.heap.size 104 [.int .i64 x.price, .int .i64 x.qty, .int .i64 x.orders] ∧ Below w6.heap.size w6 Y) ⟨hO, HBx.out.trans ((Below.alloc_set : Below wr.heap.size wr _).mono HBx.out.size)⟩ ?_
              clear hO HBx p1 p2 p3
              generalize wr.heap.size = N2 at *
              rintro Y ⟨hO, hBY⟩
              have hoc := hO.cell
              obtain ⟨g2, o2, rfl, y1, y2, y3⟩ := lv_cells (HR2.out.below hBY) hjm HX.out
              have HBY := Lib.hid hBY
              have hne := ne132_same x.price x.qty x.orders
              have hg := guard132
              clear hO hBY
              go_quiet (fail)
              go_upto_region 22 with (fail)
              refine cutW (fun Y => Below w6.heap.size w6 Y) (Below.drewN HBY.out _) ?_
              clear hoc y1 y2 y3 HBY hne Y
              rintro Y hBY
              have HBY := Lib.hid hBY
              clear hBY
              go_wp2_with fail
              go_roundw
              case rel => exact ⟨j + 1, by omega, by go_num, HBY.out⟩
              case measure => simp [intOf]; omega
            · obtain rfl : j = m := by omega
              go_wp2_with fail
              go_roundw
              case rel => exact ⟨3, by omega, by go_num, HB6.out.trans (HBx.out.mono HB6.out.size)⟩
              case measure => simp [intOf]
      · have hbad := mo49_bad wr mb 3 (by decide)
        have HBad := Lib.hid hbad
        clear hbad
        have hw1 : ((3 : Nat) : Int) = 3 := rfl
        rw [hw1]
        clear hw1
        go_wp2_with (go_at_call 49; refine HBad.out.mono ?_; rintro e w5 ⟨rfl, rfl⟩)
        go_loopw [78] (fun i wx => i = .int .i64 0 ∧ Below wr.heap.size wr wx) (fun _ _ => 0)
        case atStart => exact ⟨rfl, Below.refl _ _⟩
        case round =>
          obtain ⟨rfl, hBx⟩ := hrel
          go_wp2_with fail
          go_roundw
          case rel => exact ⟨4, by omega, by go_num, HBw.out.trans (hBx.mono HBw.out.size)⟩
          case measure => simp [intOf]
      · clear HPw
        go_wp2_with fail
        go_ret
        exact HSt.out _ (HB2.out.trans (HBw.out.mono HNW.out))
  | some o =>
    have hf : rIdx L nm < n := by have := (List.getElem?_eq_some_iff.1 ho).1; have := HNN.out; omega
    have e1 : frI (rIdx L nm) n = (rIdx L nm : Int) := if_pos hf
    have hl := HLeft.out
    rw [ho] at hl
    simp only at hl
    rw [e1] at H79
    rw [hl]
    have hrr := HP1.out.r
    rw [HV.out, ← HNN.out] at hrr
    obtain ⟨g, off, hA, -, -, x2, -⟩ := hrr.cells ho
    subst hA
    generalize rIdx L nm = i at *
    have hin : decide ((0 : Int) ≤ (i : Int)) = true := by simp
    clear ho e1 hl HLeft hrr
    go_upto_region 6 with (go_at_call 79; refine H79.out.mono ?_; rintro e V2 ⟨rfl, rfl⟩)
    have hoo : (o.left != o.left) = false := by simp
    clear x2
    have hnn : ((n : Int) != (n : Int)) = false := by simp
    refine wp_region_quiet_below (by kernel_rfl) (by kernel_rfl) ?_
    repeat (go_big_quiet_step ((go_at_call 36; exact HCalls.out _)))
    refine wpQuiet_nil ?_
    intro W2 hW2
    have hB2 : Below V1.heap.size V1 W2 := by obtain ⟨q, rfl⟩ := hW2; exact below_regrown V1 q.d q.os
    have HP2 := Lib.hid (HP1.out.below hB2)
    have HB2 := Lib.hid (HB1.out.trans (hB2.mono HNV.out))
    have HNW := Lib.hid (Nat.le_trans HNV.out hB2.size)
    clear hW2 hB2 hc1 hoc1 hr0 HCalls HP1 HB1 H79 hnn
    go_wp2_with fail
    go_loopw [56] (fun i wr => ∃ k : Nat, k ≤ 4 ∧ i = .int .i64 k ∧ Below W2.heap.size W2 wr) (fun i _ => 4 - (intOf i).toNat)
    case atStart => exact ⟨0, by omega, rfl, Below.refl _ _⟩
    case round =>
      obtain ⟨k, hk, rfl, hBw⟩ := hrel
      have HBw := Lib.hid hBw
      clear hBw
      have HPw := Lib.hid (HP2.out.below HBw.out)
      rcases (show k = 0 ∨ k = 1 ∨ k = 2 ∨ k = 3 ∨ k = 4 by omega) with rfl | rfl | rfl | rfl | rfl
      · have hbad := mo49_bad wr mb 0 (by decide)
        have HBad := Lib.hid hbad
        clear hbad
        have hw1 : ((0 : Nat) : Int) = 0 := rfl
        rw [hw1]
        clear hw1
        go_wp2_with (go_at_call 49; refine HBad.out.mono ?_; rintro e w5 ⟨rfl, rfl⟩)
        go_loopw [78] (fun i wx => i = .int .i64 0 ∧ Below wr.heap.size wr wx) (fun _ _ => 0)
        case atStart => exact ⟨rfl, Below.refl _ _⟩
        case round =>
          obtain ⟨rfl, hBx⟩ := hrel
          go_wp2_with fail
          go_roundw
          case rel => exact ⟨1, by omega, by go_num, HBw.out.trans (hBx.mono HBw.out.size)⟩
          case measure => simp [intOf]
      · have hS := HSi.out
        have hd1 := mo49_0 wr mb v0 v1 S HPw.out.m (fun x hx => ⟨HI.out.ok.b1 x hx, HI.out.p1 x hx⟩)
        rw [hS.s1] at hd1
        have HD1 := Lib.hid hd1
        clear hd1 hS
        obtain ⟨M, hMe⟩ : ∃ M, depthM (sideOf 1 L) = M := ⟨_, rfl⟩
        rw [hMe] at HD1
        have HMe := Lib.hid hMe
        clear hMe
        obtain ⟨m, hm⟩ : ∃ m, M.length = m := ⟨_, rfl⟩
        rw [hm] at HD1
        have HM := Lib.hid hm
        clear hm
        have hw1 : ((1 : Nat) : Int) = 1 := rfl
        rw [hw1]
        clear hw1
        go_wp2_with fail
        refine HD1.out.mono ?_
        rintro e w5 ⟨vd, rfl, hd, hb5⟩
        have HP5 := Lib.hid (HPw.out.below hb5)
        obtain ⟨A1, c1, rfl, hR1, -, -⟩ := own_shape hd
        have HR1 := Lib.hid hR1
        have HB5 := Lib.hid (HBw.out.trans (hb5.mono HBw.out.size))
        clear hd hb5 hR1 HD1 HPw HBw
        have h80 := rb80_1 w5 rb v L HP5.out.r HOB.out
        rw [HMe.out, HM.out] at h80
        have H80 := Lib.hid h80
        clear h80
        go_wp2_with fail
        refine H80.out.mono ?_
        rintro e w6 ⟨vl, rfl, hl, hb6⟩
        obtain ⟨A2, c2, rfl, hR2, -, -⟩ := own_shape hl
        have HR1' := Lib.hid (HR1.out.below hb6)
        have HR2 := Lib.hid hR2
        have HB6 := Lib.hid (HB5.out.trans (hb6.mono HB5.out.size))
        clear hl hb6 hR2 H80 HP5 HB5 HR1
        have hmm : ((m : Int) != (m : Int)) = false := by simp
        have h9m := HR2.out.2.1
        go_wp2_with fail
        · go_loopw [78] (fun i wx => ∃ j : Nat, j ≤ m ∧ i = .int .i64 j ∧ Below w6.heap.size w6 wx) (fun i _ => m - (intOf i).toNat)
          case atStart => exact ⟨0, by omega, rfl, Below.refl _ _⟩
          case round =>
            obtain ⟨j, hj, rfl, hBx⟩ := hrel
            have HBx := Lib.hid hBx
            clear hBx
            by_cases hjm : j < m
            · obtain ⟨x, hx⟩ : ∃ x, M[j]? = some x := ⟨_, List.getElem?_eq_getElem (by rw [HM.out]; exact hjm)⟩
              obtain ⟨g1, o1, rfl, p1, p2, p3⟩ := lv_cells (HR1'.out.below HBx.out) hjm hx
              have HX := Lib.hid hx
              clear hx
              go_upto_region 20 with (fail)
              have hO := Ob.new wr 104 [.int .i64 x.price, .int .i64 x.qty, .int .i64 x.orders]
              refine cutW (fun Y => Ob Y wr.heap.size 104 [.int .i64 x.price, .int .i64 x.qty, .int .i64 x.orders] ∧ Below w6.heap.size w6 Y) ⟨hO, HBx.out.trans ((Below.alloc_set : Below wr.heap.size wr _).mono HBx.out.size)⟩ ?_
              clear hO HBx p1 p2 p3
              generalize wr.heap.size = N2 at *
              rintro Y ⟨hO, hBY⟩
              have hoc := hO.cell
              obtain ⟨g2, o2, rfl, y1, y2, y3⟩ := lv_cells (HR2.out.below hBY) hjm HX.out
              have HBY := Lib.hid hBY
              have hne := ne132_same x.price x.qty x.orders
              have hg := guard132
              clear hO hBY
              go_quiet (fail)
              go_upto_region 22 with (fail)
              refine cutW (fun Y => Below w6.heap.size w6 Y) (Below.drewN HBY.out _) ?_
              clear hoc y1 y2 y3 HBY hne Y
              rintro Y hBY
              have HBY := Lib.hid hBY
              clear hBY
              go_wp2_with fail
              go_roundw
              case rel => exact ⟨j + 1, by omega, by go_num, HBY.out⟩
              case measure => simp [intOf]; omega
            · obtain rfl : j = m := by omega
              go_wp2_with fail
              go_roundw
              case rel => exact ⟨2, by omega, by go_num, HB6.out.trans (HBx.out.mono HB6.out.size)⟩
              case measure => simp [intOf]
      · have hS := HSi.out
        have hd1 := mo49_1 wr mb v0 v1 S HPw.out.m (fun x hx => ⟨HI.out.ok.b2 x hx, HI.out.p2 x hx⟩)
        rw [hS.s2] at hd1
        have HD1 := Lib.hid hd1
        clear hd1 hS
        obtain ⟨M, hMe⟩ : ∃ M, depthM (sideOf 2 L) = M := ⟨_, rfl⟩
        rw [hMe] at HD1
        have HMe := Lib.hid hMe
        clear hMe
        obtain ⟨m, hm⟩ : ∃ m, M.length = m := ⟨_, rfl⟩
        rw [hm] at HD1
        have HM := Lib.hid hm
        clear hm
        have hw1 : ((2 : Nat) : Int) = 2 := rfl
        rw [hw1]
        clear hw1
        go_wp2_with fail
        refine HD1.out.mono ?_
        rintro e w5 ⟨vd, rfl, hd, hb5⟩
        have HP5 := Lib.hid (HPw.out.below hb5)
        obtain ⟨A1, c1, rfl, hR1, -, -⟩ := own_shape hd
        have HR1 := Lib.hid hR1
        have HB5 := Lib.hid (HBw.out.trans (hb5.mono HBw.out.size))
        clear hd hb5 hR1 HD1 HPw HBw
        have h80 := rb80_2 w5 rb v L HP5.out.r HOB.out
        rw [HMe.out, HM.out] at h80
        have H80 := Lib.hid h80
        clear h80
        go_wp2_with fail
        refine H80.out.mono ?_
        rintro e w6 ⟨vl, rfl, hl, hb6⟩
        obtain ⟨A2, c2, rfl, hR2, -, -⟩ := own_shape hl
        have HR1' := Lib.hid (HR1.out.below hb6)
        have HR2 := Lib.hid hR2
        have HB6 := Lib.hid (HB5.out.trans (hb6.mono HB5.out.size))
        clear hl hb6 hR2 H80 HP5 HB5 HR1
        have hmm : ((m : Int) != (m : Int)) = false := by simp
        have h9m := HR2.out.2.1
        go_wp2_with fail
        · go_loopw [78] (fun i wx => ∃ j : Nat, j ≤ m ∧ i = .int .i64 j ∧ Below w6.heap.size w6 wx) (fun i _ => m - (intOf i).toNat)
          case atStart => exact ⟨0, by omega, rfl, Below.refl _ _⟩
          case round =>
            obtain ⟨j, hj, rfl, hBx⟩ := hrel
            have HBx := Lib.hid hBx
            clear hBx
            by_cases hjm : j < m
            · obtain ⟨x, hx⟩ : ∃ x, M[j]? = some x := ⟨_, List.getElem?_eq_getElem (by rw [HM.out]; exact hjm)⟩
              obtain ⟨g1, o1, rfl, p1, p2, p3⟩ := lv_cells (HR1'.out.below HBx.out) hjm hx
              have HX := Lib.hid hx
              clear hx
              go_upto_region 20 with (fail)
              have hO := Ob.new wr 104 [.int .i64 x.price, .int .i64 x.qty, .int .i64 x.orders]
              refine cutW (fun Y => Ob Y wr.heap.size 104 [.int .i64 x.price, .int .i64 x.qty, .int .i64 x.orders] ∧ Below w6.heap.size w6 Y) ⟨hO, HBx.out.trans ((Below.alloc_set : Below wr.heap.size wr _).mono HBx.out.size)⟩ ?_
              clear hO HBx p1 p2 p3
              generalize wr.heap.size = N2 at *
              rintro Y ⟨hO, hBY⟩
              have hoc := hO.cell
              obtain ⟨g2, o2, rfl, y1, y2, y3⟩ := lv_cells (HR2.out.below hBY) hjm HX.out
              have HBY := Lib.hid hBY
              have hne := ne132_same x.price x.qty x.orders
              have hg := guard132
              clear hO hBY
              go_quiet (fail)
              go_upto_region 22 with (fail)
              refine cutW (fun Y => Below w6.heap.size w6 Y) (Below.drewN HBY.out _) ?_
              clear hoc y1 y2 y3 HBY hne Y
              rintro Y hBY
              have HBY := Lib.hid hBY
              clear hBY
              go_wp2_with fail
              go_roundw
              case rel => exact ⟨j + 1, by omega, by go_num, HBY.out⟩
              case measure => simp [intOf]; omega
            · obtain rfl : j = m := by omega
              go_wp2_with fail
              go_roundw
              case rel => exact ⟨3, by omega, by go_num, HB6.out.trans (HBx.out.mono HB6.out.size)⟩
              case measure => simp [intOf]
      · have hbad := mo49_bad wr mb 3 (by decide)
        have HBad := Lib.hid hbad
        clear hbad
        have hw1 : ((3 : Nat) : Int) = 3 := rfl
        rw [hw1]
        clear hw1
        go_wp2_with (go_at_call 49; refine HBad.out.mono ?_; rintro e w5 ⟨rfl, rfl⟩)
        go_loopw [78] (fun i wx => i = .int .i64 0 ∧ Below wr.heap.size wr wx) (fun _ _ => 0)
        case atStart => exact ⟨rfl, Below.refl _ _⟩
        case round =>
          obtain ⟨rfl, hBx⟩ := hrel
          go_wp2_with fail
          go_roundw
          case rel => exact ⟨4, by omega, by go_num, HBw.out.trans (hBx.mono HBw.out.size)⟩
          case measure => simp [intOf]
      · clear HPw
        go_wp2_with fail
        go_ret
        exact HSt.out _ (HB2.out.trans (HBw.out.mono HNW.out))

end Go.Proofs.Ytjhlaifflhjafaa
