import Derived.Test.YtjhlaifflhjafaaNq
namespace Go.Proofs.Ytjhlaifflhjafaa
open Go.RowKit

/-- MatchUncrossed's loop: the book. -/
def UnAt (w W : World) (mb : Nat) (S : Sd) : Prop := (∃ v0 v1, MbAt W mb v0 v1 S) ∧ Below w.heap.size w W
theorem UnAt.below {w W W' : World} {mb : Nat} {S : Sd} (h : UnAt w W mb S) (hb : Below W.heap.size W W') : UnAt w W' mb S := by
  obtain ⟨⟨v0, v1, h1⟩, h2⟩ := h
  exact ⟨⟨v0, v1, h1.below hb⟩, h2.trans (hb.mono h2.size)⟩
theorem lv_cells {W : World} {A : Option Addr} {n : Nat} {M : List Lv} (h : Rd W A n 3 (M.flatMap lvC)) {j : Nat} {x : Lv} (hj : j < n) (hx : M[j]? = some x) :
    ∃ g off, A = some ⟨g, off, none⟩ ∧ W.cell? ⟨g, off + j * 3, none⟩ = some (.int .i64 x.price) ∧ W.cell? ⟨g, off + j * 3 + 1, none⟩ = some (.int .i64 x.qty) ∧ W.cell? ⟨g, off + j * 3 + 2, none⟩ = some (.int .i64 x.orders) := by
  obtain ⟨g, off, hA, -, hg⟩ := h.2.2 (by omega)
  refine ⟨g, off, hA, ?_, ?_, ?_⟩
  · exact hg _ _ (flat_at lvC 3 lvC_len M j 0 x hx (by omega))
  · rw [Nat.add_assoc]; exact hg _ _ (flat_at lvC 3 lvC_len M j 1 x hx (by omega))
  · rw [Nat.add_assoc]; exact hg _ _ (flat_at lvC 3 lvC_len M j 2 x hx (by omega))
theorem Rd.mods {W W' : World} {A : Option Addr} {n sz : Nat} {xs : List Value} (h : Rd W A n sz xs) (hb : Below W.heap.size W W') : Rd W' A n sz xs := h.below hb

set_option maxHeartbeats 16000000 in
set_option maxRecDepth 100000 in
theorem matchUncrossed_walk (w : World) (A : Option Addr) (n c : Nat) (ops : List MOp) (hr : Rd w A n 5 (ops.flatMap maCells)) (hl : ops.length = n) :
    Calls Try.prog 13 #[.slice A n c] w fun e w' => e = .returned (.bool true) ∧ Below w.heap.size w w' := by
  have h9 := hr.2.1
  have HR := Lib.hid hr
  have HL := Lib.hid hl
  clear hr hl
  go_enter Try.func13, Try.ntmps13
  go_wp2_with fail
  refine (awake32 _).mono ?_
  rintro e w1 ⟨rfl, hb1⟩
  have hs1 := hb1.size
  go_wp2_with fail
  refine (few43 w1 A n c ops (HR.out.below hb1) HL.out 100).mono ?_
  obtain ⟨fb, hfb⟩ : ∃ fb, fewM ops 100 = fb := ⟨_, rfl⟩
  rw [hfb]
  rintro e w2 ⟨rfl, hb2⟩
  have hB2 := hb1.trans (hb2.mono hs1)
  have HB2 := Lib.hid hB2
  clear hfb hb1 hb2 hB2
  cases fb with
  | false =>
    go_wp2_with fail
    go_ret
    exact ⟨rfl, HB2.out⟩
  | true =>
  have hs2 := HB2.out.size
  go_wp2_with fail
  refine (mo33 w2).mono ?_
  rintro e w3 ⟨rfl, hm3, hb3⟩
  have hU : UnAt w w3 w2.heap.size ([], []) := ⟨⟨_, _, hm3⟩, HB2.out.trans (hb3.mono HB2.out.size)⟩
  clear hm3 hb3 HB2
  generalize w2.heap.size = mb at *
  go_upto_region 6 with (fail)
  refine cutW (fun W => UnAt w W mb ([], [])) hU ?_
  clear hU
  intro W hU
  have HU := Lib.hid hU
  clear hU
  go_wp2_with fail
  go_loopw [21] (fun i wx => ∃ (k : Nat) (S : Sd), k ≤ n ∧ i = .int .i64 k ∧ UnAt w wx mb S ∧ MbI S) (fun i _ => n - (intOf i).toNat)
  case atStart => exact ⟨0, _, by omega, rfl, HU.out, MbI.empty⟩
  case round =>
    clear HU
    obtain ⟨k, S, hk, rfl, hU, hI⟩ := hrel
    have HU := Lib.hid hU
    have HI := Lib.hid hI
    clear hU hI
    by_cases hlt : k < n
    · obtain ⟨x, hx⟩ : ∃ x, ops[k]? = some x := ⟨_, List.getElem?_eq_getElem (by have := HL.out; omega)⟩
      obtain ⟨ga, off, hA, hbl, hcell⟩ := mop_cells HR.out hlt hx
      subst hA
      obtain ⟨kd, nm, sd, qt, pr⟩ := x
      have a : ∀ j, j < 5 → wr.cell? ⟨ga, off + k * 5 + j, none⟩ = [Value.int .i64 kd, .string nm, .int .i64 sd, .int .i64 qt, .int .i64 pr][j]? := fun j hj => (HU.out.2.cell (p := ⟨ga, off + k * 5 + j, none⟩) hbl).trans (hcell j hj)
      have a0 : wr.cell? ⟨ga, off + k * 5, none⟩ = some (.int .i64 kd) := a 0 (by omega)
      have a1 : _ = some _ := a 1 (by omega)
      have a2 : _ = some _ := a 2 (by omega)
      have a3 : _ = some _ := a 3 (by omega)
      have a4 : _ = some _ := a 4 (by omega)
      clear hcell a hx
      go_upto_region 9 with (fail)
      have hO := Ob.new wr 90 [.int .i64 kd, .string nm, .int .i64 sd, .int .i64 qt, .int .i64 pr]
      refine cutW (fun W => Ob W wr.heap.size 90 [.int .i64 kd, .string nm, .int .i64 sd, .int .i64 qt, .int .i64 pr] ∧ UnAt w W mb S) ⟨hO, HU.out.below Below.alloc_set⟩ ?_
      clear hO HU a0 a1 a2 a3 a4
      generalize wr.heap.size = N at *
      rintro V ⟨hO, hU⟩
      have hoc := hO.cell
      obtain ⟨⟨v0, v1, hmb⟩, hB⟩ := hU
      have hdo := do50 V mb v0 v1 S hmb HI.out kd nm sd qt pr
      have hI2 := HI.out.do_ (kd, nm, sd, qt, pr)
      have HDO := Lib.hid hdo
      have HI2 := Lib.hid hI2
      have HMB := Lib.hid hmb
      have HB := Lib.hid hB
      clear hO hdo hI2 hmb hB HI
      generalize doM S (kd, nm, sd, qt, pr) = D at *
      go_upto_region 10 with (go_at_call 50; refine HDO.out.mono ?_; rintro e w4 ⟨vt, rfl, -, hto⟩)
      have hB4 := hto.below HMB.out HB.out hs2
      obtain ⟨S2, hS2⟩ : ∃ S2, D.2 = S2 := ⟨_, rfl⟩
      rw [hS2] at hto HI2
      refine cutW (fun W => UnAt w W mb S2) (by obtain ⟨u0, u1, a, -, -⟩ := hto; exact ⟨⟨u0, u1, a⟩, hB4⟩) ?_
      clear hto hB4 HDO HMB HB hoc
      intro X hU
      obtain ⟨⟨u0, u1, hmb⟩, hB⟩ := hU
      have hI := HI2.out
      have HB := Lib.hid hB
      have HMB := Lib.hid hmb
      have hp1 := depthM_ok hI.ok.s1 (fun x hx => (hI.ok.b1 x hx).1)
      have hp2 := depthM_ok hI.ok.s2 (fun x hx => (hI.ok.b2 x hx).1)
      have hd1 := mo49_0 X mb u0 u1 S2 hmb (fun x hx => ⟨hI.ok.b1 x hx, hI.p1 x hx⟩)
      have hd2 := fun Y hY => mo49_1 Y mb u0 u1 S2 hY (fun x hx => ⟨hI.ok.b2 x hx, hI.p2 x hx⟩)
      have Hn2 : Hid (S2.1.length + S2.2.length ≤ 512) := Lib.hid hI.n
      have hun : ∀ a ∈ depthM S2.1, ∀ b ∈ depthM S2.2, a.price < b.price := fun a ha b hb => by
        obtain ⟨-, -, xa, hxa, ea⟩ := hp1.b a ha
        obtain ⟨-, -, xb, hxb, eb⟩ := hp2.b b hb
        rw [← ea, ← eb]; exact hI.un xa hxa xb hxb
      have HUn := Lib.hid hun
      have HP1 := Lib.hid hp1
      have HP2 := Lib.hid hp2
      have HD1 := Lib.hid hd1
      have HD2 := Lib.hid hd2
      clear hI hB hmb hp1 hp2 hd1 hd2 hun
      generalize depthM S2.1 = P at *
      generalize depthM S2.2 = Q at *
      obtain ⟨n1, hn1⟩ : ∃ n1, P.length = n1 := ⟨_, rfl⟩
      obtain ⟨n2, hn2⟩ : ∃ n2, Q.length = n2 := ⟨_, rfl⟩
      rw [hn1] at HD1
      rw [hn2] at HD2
      have Hn1' := Lib.hid hn1
      have Hn2' := Lib.hid hn2
      clear hn1 hn2
      go_wp2_with fail
      refine HD1.out.mono ?_
      rintro e w5 ⟨d1, rfl, hd1, hb5⟩
      have HM5 := Lib.hid (HMB.out.below hb5)
      have HB5 := Lib.hid (HB.out.trans (hb5.mono HB.out.size))
      obtain ⟨A1, c1, rfl, hR1, -, -⟩ := own_shape hd1
      have HR1 := Lib.hid hR1
      clear hd1 hb5 hR1 HD1 HMB HB
      go_wp2_with fail
      refine (HD2.out _ HM5.out).mono ?_
      rintro e w6 ⟨d2, rfl, hd2, hb6⟩
      have HM6 := Lib.hid (HM5.out.below hb6)
      have HB6 := Lib.hid (HB5.out.trans (hb6.mono HB5.out.size))
      have HR1' := Lib.hid (HR1.out.below hb6)
      obtain ⟨A2, c2, rfl, hR2, -, -⟩ := own_shape hd2
      have HR2 := Lib.hid hR2
      clear hd2 hb6 hR2 HD2 HM5 HB5 HR1
      go_upto_region 11 with (fail)
      go_cut [50] (fun v Z => v = .bool false ∧ UnAt w Z mb S2 ∧ Rd Z A1 n1 3 (P.flatMap lvC) ∧ Rd Z A2 n2 3 (Q.flatMap lvC))
      case first =>
        by_cases h1 : n1 = 0
        · subst h1
          go_quiet (fail)
          (try go_wp2_with fail)
          go_meet
          exact ⟨rfl, ⟨⟨_, _, HM6.out.mods ((Mods.refl (fun _ => False) w6).drewN _) (fun _ _ h => h)⟩, Below.drewN HB6.out _⟩, HR1'.out, HR2.out⟩
        have h1p : 0 < n1 := by omega
        have d1 : decide ((n1 : Int) > 0) = true := by simp; omega
        clear h1
        by_cases h2 : n2 = 0
        · subst h2
          go_quiet (fail)
          (try go_wp2_with fail)
          go_meet
          exact ⟨rfl, ⟨⟨_, _, HM6.out.mods ((Mods.refl (fun _ => False) w6).drewN _) (fun _ _ h => h)⟩, Below.drewN HB6.out _⟩, HR1'.out, HR2.out⟩
        have h2p : 0 < n2 := by omega
        have d2 : decide ((n2 : Int) > 0) = true := by simp; omega
        clear h2
        obtain ⟨xa, hxa⟩ : ∃ xa, P[0]? = some xa := ⟨_, List.getElem?_eq_getElem (by rw [Hn1'.out]; exact h1p)⟩
        obtain ⟨xb, hxb⟩ : ∃ xb, Q[0]? = some xb := ⟨_, List.getElem?_eq_getElem (by rw [Hn2'.out]; exact h2p)⟩
        have hlt2 := HUn.out xa (List.mem_of_getElem? hxa) xb (List.mem_of_getElem? hxb)
        obtain ⟨g1, o1, hA1, p1, -, -⟩ := lv_cells HR1'.out h1p hxa
        obtain ⟨g2, o2, hA2, p2, -, -⟩ := lv_cells HR2.out h2p hxb
        subst hA1
        subst hA2
        rw [Nat.zero_mul, Nat.add_zero] at p1 p2
        have d3 : decide (xb.price ≤ xa.price) = false := by simp; omega
        clear hlt2 hxa hxb
        go_quiet (fail)
        (try go_wp2_with fail)
        go_meet
        exact ⟨rfl, ⟨⟨_, _, HM6.out.mods ((Mods.refl (fun _ => False) w6).drewN _) (fun _ _ h => h)⟩, Below.drewN HB6.out _⟩, HR1'.out, HR2.out⟩
      case rest =>
      obtain ⟨rfl, hU, hR1, hR2⟩ := hcut
      have HU := Lib.hid hU
      have HR1 := Lib.hid hR1
      have HR2 := Lib.hid hR2
      clear hU hR1 hR2 HM6 HB6 HR1' 
      go_upto_block 2 with (fail)
      go_cut [8, 53] (fun v _ Z => v = .int .i64 (S2.1.length : Int) ∧ UnAt w Z mb S2 ∧ Rd Z A1 n1 3 (P.flatMap lvC) ∧ Rd Z A2 n2 3 (Q.flatMap lvC))
      case first =>
        go_wp2_with fail
        go_loopw [8, 53] (fun v i wx => ∃ j : Nat, j ≤ n1 ∧ i = .int .i64 j ∧ v = .int .i64 (sumL (·.orders) (P.take j)) ∧ UnAt w wx mb S2 ∧ Rd wx A1 n1 3 (P.flatMap lvC) ∧ Rd wx A2 n2 3 (Q.flatMap lvC)) (fun _ i _ => n1 - (intOf i).toNat)
        case atStart => exact ⟨0, by omega, rfl, by simp [sumL], HU.out, HR1.out, HR2.out⟩
        case round =>
          clear HU HR1 HR2
          obtain ⟨j, hj, rfl, rfl, hU, hR1, hR2⟩ := hrel
          have HU := Lib.hid hU
          have HR1 := Lib.hid hR1
          have HR2 := Lib.hid hR2
          clear hU hR1 hR2
          have hnn9 := HR1.out.2.1
          by_cases hjn : j < n1
          · obtain ⟨x, hx⟩ : ∃ x, P[j]? = some x := ⟨_, List.getElem?_eq_getElem (by rw [Hn1'.out]; exact hjn)⟩
            obtain ⟨b1, b2, -⟩ := HP1.out.b x (List.mem_of_getElem? hx)
            have hst := sum_take_succ (·.orders) hx
            have hs0 := sum_take_le (·.orders) P j (fun y hy => by have := (HP1.out.b y hy).2.1; omega)
            have hs1' := sum_take_le (·.orders) P (j + 1) (fun y hy => by have := (HP1.out.b y hy).2.1; omega)
            have ho := HP1.out.o
            have hn512 := Hn2.out
            have hwn : IntKind.i64.wrap ((sumL (·.orders) (P.take j)) + x.orders) = sumL (·.orders) (P.take (j + 1)) := by
              rw [IntWalk.i64_in _ (by omega), hst]
              try omega
            obtain ⟨g1, o1, hA1, p1, p2, p3⟩ := lv_cells HR1.out hjn hx
            subst hA1
            have HX := Lib.hid hx
            have HW := Lib.hid hwn
            have d2 : decide (x.qty < 1) = false := by simp; omega
            have d3 : decide (x.orders < 1) = false := by simp; omega
            clear hst hs0 hs1' ho hn512 hwn hx b1 b2
            go_upto_region 17 with (fail)
            have hO := Ob.new wr 104 [.int .i64 x.price, .int .i64 x.qty, .int .i64 x.orders]
            refine cutW (fun Y => Ob Y wr.heap.size 104 [.int .i64 x.price, .int .i64 x.qty, .int .i64 x.orders] ∧ UnAt w Y mb S2 ∧ Rd Y (some ⟨g1, o1, none⟩) n1 3 (P.flatMap lvC) ∧ Rd Y A2 n2 3 (Q.flatMap lvC)) ⟨hO, HU.out.below Below.alloc_set, HR1.out.below Below.alloc_set, HR2.out.below Below.alloc_set⟩ ?_
            clear hO HU HR1 HR2 p1 p2 p3
            generalize wr.heap.size = N2 at *
            rintro Y ⟨hO, hU, hR1, hR2⟩
            have y0 : Y.cell? ⟨N2, 0, none⟩ = some (.int .i64 x.price) := hO.cell 0
            have y1 : Y.cell? ⟨N2, 1, none⟩ = some (.int .i64 x.qty) := hO.cell 1
            have y2 : Y.cell? ⟨N2, 2, none⟩ = some (.int .i64 x.orders) := hO.cell 2
            have HU := Lib.hid hU
            have HR1 := Lib.hid hR1
            have HR2 := Lib.hid hR2
            clear hO hU hR1 hR2
            generalize sumL (·.orders) (P.take j) = sj at *
            go_cut [80] (fun v Z => v = .bool false ∧ Z.cell? ⟨N2, 2, none⟩ = some (.int .i64 x.orders) ∧ UnAt w Z mb S2 ∧ Rd Z (some ⟨g1, o1, none⟩) n1 3 (P.flatMap lvC) ∧ Rd Z A2 n2 3 (Q.flatMap lvC))
            case first =>
              have hfin : ∀ q, (Y.drewN q).cell? ⟨N2, 2, none⟩ = some (.int .i64 x.orders) ∧ UnAt w (Y.drewN q) mb S2 ∧ Rd (Y.drewN q) (some ⟨g1, o1, none⟩) n1 3 (P.flatMap lvC) ∧ Rd (Y.drewN q) A2 n2 3 (Q.flatMap lvC) := fun q => ⟨y2, HU.out.below (Below.drewN (Below.refl _ _) q), HR1.out, HR2.out⟩
              have HFin := Lib.hid hfin
              clear hfin
              by_cases hj0 : j = 0
              · subst hj0
                have d1 : decide (((0 : Nat) : Int) > 0) = false := by decide
                go_quiet (fail)
                (try go_wp2_with fail)
                go_meet
                exact ⟨rfl, HFin.out _⟩
              obtain ⟨m, rfl⟩ : ∃ m, j = m + 1 := ⟨j - 1, by omega⟩
              have d1 : decide (((m + 1 : Nat) : Int) > 0) = true := by simp
              have hw1 : IntKind.i64.wrap (m : Int) = (m : Int) := by
                have := HR1.out.2.1
                rw [IntWalk.i64_in _ (by omega)]
              have hmn : m < n1 := by omega
              obtain ⟨z, hz⟩ : ∃ z, P[m]? = some z := ⟨_, List.getElem?_eq_getElem (by rw [Hn1'.out]; exact hmn)⟩
              have hbt := HP1.out.next hz HX.out
              obtain ⟨g3, o3, hA3, q1, -, -⟩ := lv_cells HR1.out hmn hz
              injection hA3 with hA3
              injection hA3 with e1 e2 _
              subst e1; subst e2
              have d4 : decide (z.price ≤ x.price) = false := by unfold btr at hbt; simp at hbt ⊢; omega
              clear hz hbt
              go_quiet (fail)
              (try go_wp2_with fail)
              go_meet
              exact ⟨rfl, HFin.out _⟩
            case rest =>
              obtain ⟨rfl, y2', hU, hR1, hR2⟩ := hcut
              have HU := Lib.hid hU
              have HR1 := Lib.hid hR1
              have HR2 := Lib.hid hR2
              have hw2 := HW.out
              clear hU hR1 hR2 y0 y1 y2
              go_wp2_with fail
              go_roundw
              case rel => exact ⟨j + 1, by omega, by go_num, rfl, HU.out, HR1.out, HR2.out⟩
              case measure => simp [intOf]; omega
          · obtain rfl : j = n1 := by omega
            have ht : sumL (·.orders) (P.take j) = (S2.1.length : Int) := by
              rw [List.take_of_length_le (by rw [Hn1'.out]; exact Nat.le_refl _), HP1.out.o]
              try omega
            have HT := Lib.hid ht
            clear ht
            go_wp2_with fail
            go_meet
            exact ⟨by rw [HT.out], HU.out, HR1.out, HR2.out⟩
      case rest =>
      obtain ⟨rfl, hU, hR1, hR2⟩ := hcut
      clear HU HR1 HR2
      have HU := Lib.hid hU
      have HR1 := Lib.hid hR1
      have HR2 := Lib.hid hR2
      clear hU hR1 hR2
      go_upto_block 4 with (fail)
      go_cut [8, 88] (fun v _ Z => v = .int .i64 ((S2.1.length : Int) + S2.2.length) ∧ UnAt w Z mb S2 ∧ Rd Z A1 n1 3 (P.flatMap lvC) ∧ Rd Z A2 n2 3 (Q.flatMap lvC))
      case first =>
        go_wp2_with fail
        go_loopw [8, 88] (fun v i wx => ∃ j : Nat, j ≤ n2 ∧ i = .int .i64 j ∧ v = .int .i64 ((S2.1.length : Int) + sumL (·.orders) (Q.take j)) ∧ UnAt w wx mb S2 ∧ Rd wx A1 n1 3 (P.flatMap lvC) ∧ Rd wx A2 n2 3 (Q.flatMap lvC)) (fun _ i _ => n2 - (intOf i).toNat)
        case atStart => exact ⟨0, by omega, rfl, by simp [sumL], HU.out, HR1.out, HR2.out⟩
        case round =>
          clear HU HR1 HR2
          obtain ⟨j, hj, rfl, rfl, hU, hR1, hR2⟩ := hrel
          have HU := Lib.hid hU
          have HR1 := Lib.hid hR1
          have HR2 := Lib.hid hR2
          clear hU hR1 hR2
          have hnn9 := HR2.out.2.1
          by_cases hjn : j < n2
          · obtain ⟨x, hx⟩ : ∃ x, Q[j]? = some x := ⟨_, List.getElem?_eq_getElem (by rw [Hn2'.out]; exact hjn)⟩
            obtain ⟨b1, b2, -⟩ := HP2.out.b x (List.mem_of_getElem? hx)
            have hst := sum_take_succ (·.orders) hx
            have hs0 := sum_take_le (·.orders) Q j (fun y hy => by have := (HP2.out.b y hy).2.1; omega)
            have hs1' := sum_take_le (·.orders) Q (j + 1) (fun y hy => by have := (HP2.out.b y hy).2.1; omega)
            have ho := HP2.out.o
            have hn512 := Hn2.out
            have hwn : IntKind.i64.wrap (((S2.1.length : Int) + sumL (·.orders) (Q.take j)) + x.orders) = (S2.1.length : Int) + sumL (·.orders) (Q.take (j + 1)) := by
              rw [IntWalk.i64_in _ (by omega), hst]
              try omega
            obtain ⟨g1, o1, hA1, p1, p2, p3⟩ := lv_cells HR2.out hjn hx
            subst hA1
            have HX := Lib.hid hx
            have HW := Lib.hid hwn
            have d2 : decide (x.qty < 1) = false := by simp; omega
            have d3 : decide (x.orders < 1) = false := by simp; omega
            clear hst hs0 hs1' ho hn512 hwn hx b1 b2
            go_upto_region 24 with (fail)
            have hO := Ob.new wr 104 [.int .i64 x.price, .int .i64 x.qty, .int .i64 x.orders]
            refine cutW (fun Y => Ob Y wr.heap.size 104 [.int .i64 x.price, .int .i64 x.qty, .int .i64 x.orders] ∧ UnAt w Y mb S2 ∧ Rd Y A1 n1 3 (P.flatMap lvC) ∧ Rd Y (some ⟨g1, o1, none⟩) n2 3 (Q.flatMap lvC)) ⟨hO, HU.out.below Below.alloc_set, HR1.out.below Below.alloc_set, HR2.out.below Below.alloc_set⟩ ?_
            clear hO HU HR1 HR2 p1 p2 p3
            generalize wr.heap.size = N2 at *
            rintro Y ⟨hO, hU, hR1, hR2⟩
            have y0 : Y.cell? ⟨N2, 0, none⟩ = some (.int .i64 x.price) := hO.cell 0
            have y1 : Y.cell? ⟨N2, 1, none⟩ = some (.int .i64 x.qty) := hO.cell 1
            have y2 : Y.cell? ⟨N2, 2, none⟩ = some (.int .i64 x.orders) := hO.cell 2
            have HU := Lib.hid hU
            have HR1 := Lib.hid hR1
            have HR2 := Lib.hid hR2
            clear hO hU hR1 hR2
            generalize sumL (·.orders) (Q.take j) = sj at *
            go_cut [115] (fun v Z => v = .bool false ∧ Z.cell? ⟨N2, 2, none⟩ = some (.int .i64 x.orders) ∧ UnAt w Z mb S2 ∧ Rd Z A1 n1 3 (P.flatMap lvC) ∧ Rd Z (some ⟨g1, o1, none⟩) n2 3 (Q.flatMap lvC))
            case first =>
              have hfin : ∀ q, (Y.drewN q).cell? ⟨N2, 2, none⟩ = some (.int .i64 x.orders) ∧ UnAt w (Y.drewN q) mb S2 ∧ Rd (Y.drewN q) A1 n1 3 (P.flatMap lvC) ∧ Rd (Y.drewN q) (some ⟨g1, o1, none⟩) n2 3 (Q.flatMap lvC) := fun q => ⟨y2, HU.out.below (Below.drewN (Below.refl _ _) q), HR1.out, HR2.out⟩
              have HFin := Lib.hid hfin
              clear hfin
              by_cases hj0 : j = 0
              · subst hj0
                have d1 : decide (((0 : Nat) : Int) > 0) = false := by decide
                go_quiet (fail)
                (try go_wp2_with fail)
                go_meet
                exact ⟨rfl, HFin.out _⟩
              obtain ⟨m, rfl⟩ : ∃ m, j = m + 1 := ⟨j - 1, by omega⟩
              have d1 : decide (((m + 1 : Nat) : Int) > 0) = true := by simp
              have hw1 : IntKind.i64.wrap (m : Int) = (m : Int) := by
                have := HR2.out.2.1
                rw [IntWalk.i64_in _ (by omega)]
              have hmn : m < n2 := by omega
              obtain ⟨z, hz⟩ : ∃ z, Q[m]? = some z := ⟨_, List.getElem?_eq_getElem (by rw [Hn2'.out]; exact hmn)⟩
              have hbt := HP2.out.next hz HX.out
              obtain ⟨g3, o3, hA3, q1, -, -⟩ := lv_cells HR2.out hmn hz
              injection hA3 with hA3
              injection hA3 with e1 e2 _
              subst e1; subst e2
              have d4 : decide (x.price ≤ z.price) = false := by unfold btr at hbt; simp at hbt ⊢; omega
              clear hz hbt
              go_quiet (fail)
              (try go_wp2_with fail)
              go_meet
              exact ⟨rfl, HFin.out _⟩
            case rest =>
              obtain ⟨rfl, y2', hU, hR1, hR2⟩ := hcut
              have HU := Lib.hid hU
              have HR1 := Lib.hid hR1
              have HR2 := Lib.hid hR2
              have hw2 := HW.out
              clear hU hR1 hR2 y0 y1 y2
              go_wp2_with fail
              go_roundw
              case rel => exact ⟨j + 1, by omega, by go_num, rfl, HU.out, HR1.out, HR2.out⟩
              case measure => simp [intOf]; omega
          · obtain rfl : j = n2 := by omega
            have ht : (S2.1.length : Int) + sumL (·.orders) (Q.take j) = ((S2.1.length : Int) + S2.2.length) := by
              rw [List.take_of_length_le (by rw [Hn2'.out]; exact Nat.le_refl _), HP2.out.o]
              try omega
            have HT := Lib.hid ht
            clear ht
            go_wp2_with fail
            go_meet
            exact ⟨by rw [HT.out], HU.out, HR1.out, HR2.out⟩
      case rest =>
      obtain ⟨rfl, hU, hR1, hR2⟩ := hcut
      clear HU HR1 HR2
      have HU := Lib.hid hU
      have HR1 := Lib.hid hR1
      have HR2 := Lib.hid hR2
      clear hU hR1 hR2
      obtain ⟨⟨t0, t1, hmt⟩, hBt⟩ := HU.out
      have hcn := mo36 wc mb t0 t1 S2 hmt
      have hsum : (S2.1.length : Int) + S2.2.length = ((S2.1.length + S2.2.length : Nat) : Int) := by simp
      have HCN := Lib.hid hcn
      have HBt := Lib.hid hBt
      have HMt := Lib.hid hmt
      clear hcn hmt hBt
      have HIS := HI2
      rw [hsum]
      generalize hT : S2.1.length + S2.2.length = T at *
      clear hsum
      go_wp2_with (go_at_call 36; refine HCN.out.mono ?_; rintro e w8 ⟨rfl, hb8⟩)
      go_roundw
      case rel => exact ⟨k + 1, S2, by omega, by go_num, ⟨⟨t0, t1, HMt.out.below hb8⟩, HBt.out.trans (hb8.mono HBt.out.size)⟩, HIS.out⟩
      case measure => simp [intOf]; omega
    · obtain rfl : k = n := by omega
      go_wp2_with fail
      go_ret
      exact ⟨rfl, HU.out.2⟩

end Go.Proofs.Ytjhlaifflhjafaa
