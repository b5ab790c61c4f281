import Derived.Test.YtjhlaifflhjafaaNr
import Derived.Test.YtjhlaifflhjafaaNs
namespace Go.Proofs.Ytjhlaifflhjafaa
open Go.RowKit

theorem leftS_bnd : ∀ (l : List Mo), (∀ x ∈ l, 1 ≤ x.left ∧ x.left ≤ 1099511627776) → 0 ≤ leftS l ∧ leftS l ≤ l.length * 1099511627776
  | [], _ => by simp [leftS]
  | x :: l, h => by
    have h1 := h x (List.mem_cons_self ..)
    have h2 := leftS_bnd l (fun y hy => h y (List.mem_cons_of_mem _ hy))
    rw [leftS_cons, List.length_cons]
    omega
theorem sum_bnd {S : Sd} (h : MbI S) : 0 ≤ leftS S.1 ∧ 0 ≤ leftS S.2 ∧ leftS S.1 + leftS S.2 ≤ 562949953421312 := by
  have h1 := leftS_bnd S.1 h.ok.b1
  have h2 := leftS_bnd S.2 h.ok.b2
  have h3 := h.n
  omega

set_option maxHeartbeats 3200000 in
set_option maxRecDepth 100000 in
theorem rests51 (w : World) (mb : Nat) (v0 v1 : Value) (S : Sd) (h : MbAt w mb v0 v1 S) (hI : MbI S) :
    Calls Try.prog 51 #[.pointer (some ⟨mb, 0, none⟩)] w fun e w' => e = .returned (.int .i64 (sumS S)) ∧ Below w.heap.size w w' := by
  have hbn := sum_bnd hI
  have hp1 := depthM_ok hI.ok.s1 (fun x hx => (hI.ok.b1 x hx).1)
  have hp2 := depthM_ok hI.ok.s2 (fun x hx => (hI.ok.b2 x hx).1)
  have hd1 := fun Y hY => mo49_0 Y mb v0 v1 S hY (fun x hx => ⟨hI.ok.b1 x hx, hI.p1 x hx⟩)
  have hd2 := fun Y hY => mo49_1 Y mb v0 v1 S hY (fun x hx => ⟨hI.ok.b2 x hx, hI.p2 x hx⟩)
  have hsum : sumS S = leftS S.1 + leftS S.2 := rfl
  have H := Lib.hid h
  have HP1 := Lib.hid hp1
  have HP2 := Lib.hid hp2
  have HD1 := Lib.hid hd1
  have HD2 := Lib.hid hd2
  have HS := Lib.hid hsum
  obtain ⟨s1, hs1⟩ : ∃ s1, leftS S.1 = s1 := ⟨_, rfl⟩
  obtain ⟨s2, hs2⟩ : ∃ s2, leftS S.2 = s2 := ⟨_, rfl⟩
  rw [hs1, hs2] at hbn HS
  have HS1 := Lib.hid hs1
  have HS2 := Lib.hid hs2
  obtain ⟨b1, b2, b3⟩ := hbn
  clear h hI hp1 hp2 hd1 hd2 hsum hs1 hs2
  generalize depthM S.1 = P at *
  generalize depthM S.2 = Q at *
  go_enter Try.func51, Try.ntmps51
  go_wp2_with fail
  go_loopw [3, 4] (fun v sd wr => ((sd = .int .i64 1 ∧ v = .int .i64 0) ∨ (sd = .int .i64 2 ∧ v = .int .i64 s1) ∨ (sd = .int .i64 3 ∧ v = .int .i64 (s1 + s2))) ∧ Below w.heap.size w wr) (fun _ sd _ => 4 - (intOf sd).toNat)
  case atStart => exact ⟨.inl ⟨rfl, rfl⟩, Below.refl _ _⟩
  case round =>
    obtain ⟨hst, hB⟩ := hrel
    have HB := Lib.hid hB
    clear hB
    rcases hst with ⟨rfl, rfl⟩ | ⟨rfl, rfl⟩ | ⟨rfl, rfl⟩
    · obtain ⟨n1, hn1⟩ : ∃ n1, P.length = n1 := ⟨_, rfl⟩
      have hd := HD1.out wr (H.out.below HB.out)
      rw [hn1] at hd
      have HN := Lib.hid hn1
      have HDD := Lib.hid hd
      clear hn1 hd
      go_wp2_with fail
      refine HDD.out.mono ?_
      rintro e w5 ⟨d1, rfl, hd1, hb5⟩
      have HB5 := Lib.hid (HB.out.trans (hb5.mono HB.out.size))
      obtain ⟨A1, c1, rfl, hR1, -, -⟩ := own_shape hd1
      have HR1 := Lib.hid hR1
      clear hd1 hb5 hR1 HDD HB
      go_wp2_with fail
      · go_loopw [3, 15] (fun v i wx => ∃ j : Nat, j ≤ n1 ∧ i = .int .i64 j ∧ v = .int .i64 (sumL (·.qty) (P.take j)) ∧ Below w5.heap.size w5 wx) (fun _ i _ => n1 - (intOf i).toNat)
        case atStart => exact ⟨0, by omega, rfl, by simp [sumL], Below.refl _ _⟩
        case round =>
          obtain ⟨j, hj, rfl, rfl, hBx⟩ := hrel
          have HBx := Lib.hid hBx
          have hnn9 := HR1.out.2.1
          clear hBx
          by_cases hjn : j < n1
          · obtain ⟨x, hx⟩ : ∃ x, P[j]? = some x := ⟨_, List.getElem?_eq_getElem (by rw [HN.out]; exact hjn)⟩
            have hst := sum_take_succ (·.qty) hx
            have hs0 := sum_take_le (·.qty) P j (fun y hy => by have := (HP1.out.b y hy).1; omega)
            have hs1' := sum_take_le (·.qty) P (j + 1) (fun y hy => by have := (HP1.out.b y hy).1; omega)
            have ho := HP1.out.q
            rw [HS1.out] at ho
            have hwn : IntKind.i64.wrap ((sumL (·.qty) (P.take j)) + x.qty) = sumL (·.qty) (P.take (j + 1)) := by
              rw [IntWalk.i64_in _ (by omega), hst]
              try omega
            obtain ⟨g1, o1, hA1, p1, p2, p3⟩ := lv_cells (HR1.out.below HBx.out) hjn hx
            subst hA1
            have HW := Lib.hid hwn
            clear hst hs0 hs1' ho hwn hx
            generalize hsj : sumL (·.qty) (P.take j) = sj at *
            clear hsj
            go_upto_region 8 with (fail)
            have hO := Ob.new wr 104 [.int .i64 x.price, .int .i64 x.qty, .int .i64 x.orders]
            refine cutW (fun Y => Ob Y wr.heap.size 104 [.int .i64 x.price, .int .i64 x.qty, .int .i64 x.orders] ∧ Below w5.heap.size w5 Y) ⟨hO, HBx.out.trans ((Below.alloc_set : Below wr.heap.size wr _).mono HBx.out.size)⟩ ?_
            clear hO HBx p1 p2 p3
            generalize wr.heap.size = N2 at *
            rintro Y ⟨hO, hBY⟩
            have y1 : Y.cell? ⟨N2, 1, none⟩ = some (.int .i64 x.qty) := hO.cell 1
            have HBY := Lib.hid hBY
            have hw2 := HW.out
            clear hO hBY
            go_wp2_with fail
            go_roundw
            case rel => exact ⟨j + 1, by omega, by go_num, rfl, HBY.out⟩
            case measure => simp [intOf]; omega
          · obtain rfl : j = n1 := by omega
            have ht : sumL (·.qty) (P.take j) = s1 := by
              rw [List.take_of_length_le (by rw [HN.out]; exact Nat.le_refl _), HP1.out.q, HS1.out]
            have HT := Lib.hid ht
            clear ht
            rw [HT.out]
            go_wp2_with fail
            go_roundw
            case rel => exact ⟨.inr (.inl ⟨rfl, rfl⟩), HB5.out.trans (HBx.out.mono HB5.out.size)⟩
            case measure => simp [intOf]
    · obtain ⟨n1, hn1⟩ : ∃ n1, Q.length = n1 := ⟨_, rfl⟩
      have hd := HD2.out wr (H.out.below HB.out)
      rw [hn1] at hd
      have HN := Lib.hid hn1
      have HDD := Lib.hid hd
      clear hn1 hd
      go_wp2_with fail
      refine HDD.out.mono ?_
      rintro e w5 ⟨d1, rfl, hd1, hb5⟩
      have HB5 := Lib.hid (HB.out.trans (hb5.mono HB.out.size))
      obtain ⟨A1, c1, rfl, hR1, -, -⟩ := own_shape hd1
      have HR1 := Lib.hid hR1
      clear hd1 hb5 hR1 HDD HB
      go_wp2_with fail
      · go_loopw [3, 15] (fun v i wx => ∃ j : Nat, j ≤ n1 ∧ i = .int .i64 j ∧ v = .int .i64 (s1 + sumL (·.qty) (Q.take j)) ∧ Below w5.heap.size w5 wx) (fun _ i _ => n1 - (intOf i).toNat)
        case atStart => exact ⟨0, by omega, rfl, by simp [sumL], Below.refl _ _⟩
        case round =>
          obtain ⟨j, hj, rfl, rfl, hBx⟩ := hrel
          have HBx := Lib.hid hBx
          have hnn9 := HR1.out.2.1
          clear hBx
          by_cases hjn : j < n1
          · obtain ⟨x, hx⟩ : ∃ x, Q[j]? = some x := ⟨_, List.getElem?_eq_getElem (by rw [HN.out]; exact hjn)⟩
            have hst := sum_take_succ (·.qty) hx
            have hs0 := sum_take_le (·.qty) Q j (fun y hy => by have := (HP2.out.b y hy).1; omega)
            have hs1' := sum_take_le (·.qty) Q (j + 1) (fun y hy => by have := (HP2.out.b y hy).1; omega)
            have ho := HP2.out.q
            rw [HS2.out] at ho
            have hwn : IntKind.i64.wrap ((s1 + sumL (·.qty) (Q.take j)) + x.qty) = s1 + sumL (·.qty) (Q.take (j + 1)) := by
              rw [IntWalk.i64_in _ (by omega), hst]
              try omega
            obtain ⟨g1, o1, hA1, p1, p2, p3⟩ := lv_cells (HR1.out.below HBx.out) hjn hx
            subst hA1
            have HW := Lib.hid hwn
            clear hst hs0 hs1' ho hwn hx
            generalize hsj : sumL (·.qty) (Q.take j) = sj at *
            clear hsj
            go_upto_region 8 with (fail)
            have hO := Ob.new wr 104 [.int .i64 x.price, .int .i64 x.qty, .int .i64 x.orders]
            refine cutW (fun Y => Ob Y wr.heap.size 104 [.int .i64 x.price, .int .i64 x.qty, .int .i64 x.orders] ∧ Below w5.heap.size w5 Y) ⟨hO, HBx.out.trans ((Below.alloc_set : Below wr.heap.size wr _).mono HBx.out.size)⟩ ?_
            clear hO HBx p1 p2 p3
            generalize wr.heap.size = N2 at *
            rintro Y ⟨hO, hBY⟩
            have y1 : Y.cell? ⟨N2, 1, none⟩ = some (.int .i64 x.qty) := hO.cell 1
            have HBY := Lib.hid hBY
            have hw2 := HW.out
            clear hO hBY
            go_wp2_with fail
            go_roundw
            case rel => exact ⟨j + 1, by omega, by go_num, rfl, HBY.out⟩
            case measure => simp [intOf]; omega
          · obtain rfl : j = n1 := by omega
            have ht : s1 + sumL (·.qty) (Q.take j) = (s1 + s2) := by
              rw [List.take_of_length_le (by rw [HN.out]; exact Nat.le_refl _), HP2.out.q, HS2.out]
            have HT := Lib.hid ht
            clear ht
            rw [HT.out]
            go_wp2_with fail
            go_roundw
            case rel => exact ⟨.inr (.inr ⟨rfl, rfl⟩), HB5.out.trans (HBx.out.mono HB5.out.size)⟩
            case measure => simp [intOf]
    · go_wp2_with fail
      go_ret
      rw [HS.out]
      exact ⟨rfl, HB.out⟩

end Go.Proofs.Ytjhlaifflhjafaa
