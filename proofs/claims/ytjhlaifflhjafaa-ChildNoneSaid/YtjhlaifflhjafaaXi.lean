import Derived.Test.YtjhlaifflhjafaaXh
import Derived.Deep.CutBlock
import Derived.Test.YtjhlaifflhjafaaChO
namespace Go.Proofs.Ytjhlaifflhjafaa
open Go.RowKit

def cx (st q p nq np cum : Int) : Ch := ⟨⟨#[99]⟩, ⟨#[86]⟩, 1, st, q, p, nq, np, cum⟩
theorem cx_new : newB ⟨#[99]⟩ ⟨#[86]⟩ 1 10 99 = true := by kernel_rfl
theorem CInv.new {id ve : ByteArray} {sd q p : Int} (h : newB id ve sd q p = true) : CInv ⟨id, ve, sd, 1, q, p, 0, 0, 0⟩ := by
  unfold newB at h
  simp at h
  constructor <;> simp <;> omega

theorem below_b {w : World} {b : Nat} {B : Nat} {v v' : World} (h1 : Below B w v) (h2 : B ≤ v.heap.size) (h3 : B ≤ b) (h4 : Mods (fun k => k = b) v v') : Below B w v' := Below.mods h1 h4 (fun k hk => by omega) h2
theorem fld35 (a0 a1 a2 a3 a4 a5 a6 a7 a8 a9 : Value) (w : World) : (Instr.field 35 (.agg #[a0, a1, a2, a3, a4, a5, a6, a7, a8, a9]) 3).run Try.prog w = .ok a3 w := by kernel_rfl

set_option maxHeartbeats 1600000 in
set_option maxRecDepth 100000 in
theorem awake21 (w : World) : Calls Try.prog 18 #[] w fun e w' => e = .returned (.bool true) ∧ Below w.heap.size w w' := by
  have i0 : CInv (cx 1 10 99 0 0 0) := CInv.new cx_new
  have e1 : cTrade (cx 1 10 99 0 0 0) 4 = (0, cx 3 10 99 0 0 4) := by rfl
  have i1 : CInv (cx 3 10 99 0 0 4) := by have := (law_trade _ i0 4).inv; rw [e1] at this; exact this
  have e2 : cNow (cx 3 10 99 0 0 4) 1 = (0, cx 3 10 99 0 0 4) := by rfl
  have e3 : cReplace (cx 3 10 99 0 0 4) 20 98 = (0, cx 5 10 99 20 98 4) := by rfl
  have i3 : CInv (cx 5 10 99 20 98 4) := by have := (law_replace _ i1 20 98).1; rw [e3] at this; exact this
  have e4 : cTrade (cx 5 10 99 20 98 4) 7 = (0, cx 5 10 99 20 98 11) := by rfl
  have i4 : CInv (cx 5 10 99 20 98 11) := by have := (law_trade _ i3 7).inv; rw [e4] at this; exact this
  have e5 : cRefused (cx 5 10 99 20 98 11) = (0, cx 6 10 99 0 0 11) := by rfl
  have i5 : CInv (cx 6 10 99 0 0 11) := by have := (law_refused _ i4).inv; rw [e5] at this; exact this
  have I0 := Lib.hid i0
  have I1 := Lib.hid i1
  have I3 := Lib.hid i3
  have I4 := Lib.hid i4
  have I5 := Lib.hid i5
  have E1 := Lib.hid e1
  have E2 := Lib.hid e2
  have E3 := Lib.hid e3
  have E4 := Lib.hid e4
  have E5 := Lib.hid e5
  clear i0 i1 i3 i4 i5 e1 e2 e3 e4 e5
  go_enter Try.func18, Try.ntmps18
  go_wp2_with fail
  refine (cNew_any _ _ _ _ _ _).mono ?_
  rintro e w1 ⟨hb1, ⟨hf, -⟩ | ⟨-, b, rfl, hC1, hbB⟩⟩
  · exact absurd hf (by rw [cx_new]; decide)
  have s1 := hb1.size
  have hC1 : CAt w1 b (cx 1 10 99 0 0 0) := hC1
  go_wp2_with fail
  refine (cTrade_any w1 b _ hC1 I0.out 4).mono ?_
  rw [E1.out]
  rintro e w2 ⟨rfl, hC2, hM⟩
  have hb2 := below_b hb1 s1 hbB hM
  have s2 := hb2.size
  clear hC1 hM hb1
  go_wp2_with fail
  refine (cClaim_any w2 b _ hC2 I1.out).mono ?_
  rintro e w3 ⟨he, hb⟩
  obtain rfl : e = .returned (.int .i64 6) := he
  have hC3 := hC2.below hb
  have hb3 := hb2.trans (hb.mono s2)
  have s3 := hb3.size
  clear hC2 hb hb2
  go_wp2_with fail
  refine (cAck w3 b _ hC3 (by decide)).mono ?_
  rw [E2.out]
  rintro e w4 ⟨rfl, hC4, hM⟩
  have hb4 := below_b hb3 s3 hbB hM
  have s4 := hb4.size
  clear hC3 hM hb3
  go_wp2_with fail
  refine (cReplace_any w4 b _ hC4 (by decide) 20 98).mono ?_
  rw [E3.out]
  rintro e w5 ⟨rfl, hC5, hM⟩
  have hb5 := below_b hb4 s4 hbB hM
  have s5 := hb5.size
  clear hC4 hM hb4
  go_wp2_with fail
  refine (cClaim_any w5 b _ hC5 I3.out).mono ?_
  rintro e w6 ⟨he, hb⟩
  obtain rfl : e = .returned (.int .i64 16) := he
  have hC6 := hC5.below hb
  have hb6 := hb5.trans (hb.mono s5)
  have s6 := hb6.size
  clear hC5 hb hb5
  go_wp2_with fail
  refine (cTrade_any w6 b _ hC6 I3.out 7).mono ?_
  rw [E4.out]
  rintro e w7 ⟨rfl, hC7, hM⟩
  have hb7 := below_b hb6 s6 hbB hM
  have s7 := hb7.size
  clear hC6 hM hb6
  go_wp2_with fail
  refine (cRefused_any w7 b _ hC7 (by decide)).mono ?_
  rw [E5.out]
  rintro e w8 ⟨rfl, hC8, hM⟩
  have hb8 := below_b hb7 s7 hbB hM
  have s8 := hb8.size
  clear hC7 hM hb7
  go_wp2_with fail
  refine (cStatus_any w8 b _ hC8 I5.out).mono ?_
  rintro e w9 ⟨rfl, hb⟩
  have hC9 := hC8.below hb
  have hb9 := hb8.trans (hb.mono s8)
  have s9 := hb9.size
  have q6 : (cx 6 10 99 0 0 11).st = 6 := rfl
  have hfl := fun w => fld35 (.string (cx 6 10 99 0 0 11).id) (.string (cx 6 10 99 0 0 11).ve) (.int .i64 (cx 6 10 99 0 0 11).sd) (.int .i64 6) (.int .i64 (cx 6 10 99 0 0 11).q) (.int .i64 (cx 6 10 99 0 0 11).p) (.int .i64 (cx 6 10 99 0 0 11).nq) (.int .i64 (cx 6 10 99 0 0 11).np) (.int .i64 (cx 6 10 99 0 0 11).cum) (.int .i64 (clm (cx 6 10 99 0 0 11))) w
  clear hC8 hb hb8
  go_wp2_with fail
  refine (cClaim_any w9 b _ hC9 I5.out).mono ?_
  rintro e w10 ⟨he, hb⟩
  obtain rfl : e = .returned (.int .i64 0) := he
  go_wp2_with fail
  go_ret
  exact ⟨rfl, hb9.trans (hb.mono s9)⟩

abbrev COrd := ByteArray × ByteArray × Int × Int × Int
set_option maxHeartbeats 800000 in
set_option maxRecDepth 100000 in
theorem childBounds_out (w : World) (id ve : ByteArray) (sd q p : Int) (A : Option Addr) (n c : Nat) (h9 : n ≤ 9223372036854775807) (hi : id.size ≤ maxLen) (hv : ve.size ≤ maxLen) (h : 200 < id.size ∨ 200 < ve.size ∨ 100 < n) :
    Calls Try.prog 4 #[.agg #[.string id, .string ve, .int .i64 sd, .int .i64 q, .int .i64 p], .slice A n c] w fun e w' => e = .returned (.bool true) ∧ Below w.heap.size w w' := by
  unfold maxLen at hi hv
  have hO := Ob.new w 25 [.string id, .string ve, .int .i64 sd, .int .i64 q, .int .i64 p]
  have HO := Lib.hid hO
  have hsz : (w.alloc (.cells #[.string id, .string ve, .int .i64 sd, .int .i64 q, .int .i64 p] 25)).heap.size = w.heap.size + 1 := by simp
  have Hsz := Lib.hid hsz
  clear hO hsz
  by_cases h1 : 200 < id.size
  · clear h
    go_enter Try.func4, Try.ntmps4
    go_wp2_with (go_at_call 18; refine (awake21 _).mono ?_; rintro e w' ⟨rfl, hbw⟩; have hoc := (HO.out.below hbw HO.out.lt).cell)
    go_ret
    exact ⟨rfl, Below.alloc_set.trans (hbw.mono (by rw [Hsz.out]; omega))⟩
  by_cases h2 : 200 < ve.size
  · clear h
    go_enter Try.func4, Try.ntmps4
    go_wp2_with (go_at_call 18; refine (awake21 _).mono ?_; rintro e w' ⟨rfl, hbw⟩; have hoc := (HO.out.below hbw HO.out.lt).cell)
    go_ret
    exact ⟨rfl, Below.alloc_set.trans (hbw.mono (by rw [Hsz.out]; omega))⟩
  have h3 : 100 < n := by omega
  clear h
  go_enter Try.func4, Try.ntmps4
  go_wp2_with (go_at_call 18; refine (awake21 _).mono ?_; rintro e w' ⟨rfl, hbw⟩; have hoc := (HO.out.below hbw HO.out.lt).cell)
  go_ret
  exact ⟨rfl, Below.alloc_set.trans (hbw.mono (by rw [Hsz.out]; omega))⟩

set_option maxHeartbeats 8000000 in
set_option maxRecDepth 100000 in
theorem childBounds_in (w : World) (id ve : ByteArray) (sd q p : Int) (A : Option Addr) (n cp : Nat) (ops : List COp) (hr : Rd w A n 3 (ops.flatMap chOp)) (hl : ops.length = n) (h1 : id.size ≤ 200) (h2 : ve.size ≤ 200) (h3 : n ≤ 100) :
    Calls Try.prog 4 #[.agg #[.string id, .string ve, .int .i64 sd, .int .i64 q, .int .i64 p], .slice A n cp] w fun e w' => e = .returned (.bool true) ∧ Below w.heap.size w w' := by
  have HR := Lib.hid hr
  have HL := Lib.hid hl
  have hO := Ob.new w 25 [.string id, .string ve, .int .i64 sd, .int .i64 q, .int .i64 p]
  have hB0 : Below w.heap.size w (w.alloc (.cells #[.string id, .string ve, .int .i64 sd, .int .i64 q, .int .i64 p] 25)) := Below.alloc_set
  clear hr hl
  go_enter Try.func4, Try.ntmps4
  go_upto_region 1 with (fail)
  refine cutW (fun W => Ob W w.heap.size 25 [.string id, .string ve, .int .i64 sd, .int .i64 q, .int .i64 p] ∧ Below w.heap.size w W) ⟨hO, hB0⟩ ?_
  clear hO hB0
  rintro W0 ⟨hO, hB⟩
  go_wp2_with fail
  refine (awake21 _).mono ?_
  rintro e w1 ⟨rfl, hb1⟩
  have hO1 := hO.below hb1 hO.lt
  have hoc := hO1.cell
  have hB1 := hB.trans (hb1.mono hB.size)
  have HO1 := Lib.hid hO1
  have HB1 := Lib.hid hB1
  clear hO hB hb1 hO1 hB1
  go_wp2_with fail
  refine (cNew_any _ _ _ _ _ _).mono ?_
  rintro e w2 ⟨hb2, ⟨-, k, hk, rfl⟩ | ⟨hn, b, rfl, hC, hbB⟩⟩
  · have hkb : (k != 0) = true := by simpa using hk
    go_wp2_with fail
    go_ret
    exact ⟨rfl, HB1.out.trans (hb2.mono HB1.out.size)⟩
  have hI0 := CInv.new hn
  have hO2 := HO1.out.below hb2 HO1.out.lt
  have hoc2 := hO2.cell
  have hB2 := HB1.out.trans (hb2.mono HB1.out.size)
  have hs0 : csum ⟨id, ve, sd, 1, q, p, 0, 0, 0⟩ = q := by simp [csum, clm]
  have hbw : w.heap.size ≤ b := Nat.le_trans HB1.out.size hbB
  have HI0 := Lib.hid hI0
  have HC0 := Lib.hid hC
  have HB2 := Lib.hid hB2
  have Hs0 := Lib.hid hs0
  clear hI0 hC hO2 hB2 hs0 hoc hb2 hn
  go_wp2_with fail
  clear hoc2
  go_loopw [7, 8, 55] (fun mv lv i wx => ∃ (k : Nat) (c : Ch) (most last : Int), k ≤ n ∧ i = .int .i64 k ∧ mv = .int .i64 most ∧ lv = .int .i64 last ∧ CAt wx b c ∧ CInv c ∧ last = csum c ∧ csum c ≤ most ∧ Below w.heap.size w wx) (fun _ _ i _ => n - (intOf i).toNat)
  case atStart => exact ⟨0, _, q, q, by omega, rfl, rfl, rfl, HC0.out, HI0.out, Hs0.out.symm, by rw [Hs0.out]; exact Int.le_refl _, HB2.out⟩
  case round =>
    clear HC0 HI0 Hs0 HB2
    obtain ⟨k, c, most, last, hk, rfl, rfl, rfl, hC, hI, hlast, hmost, hB⟩ := hrel
    by_cases hlt : k < n
    · obtain ⟨x, hx⟩ : ∃ x, ops[k]? = some x := ⟨_, List.getElem?_eq_getElem (by have := HL.out; omega)⟩
      obtain ⟨g, off, hA, hbl, hcell⟩ := HR.out.2.2 (by omega)
      subst hA
      obtain ⟨o1, o2, o3⟩ := x
      have a0 : _ = some (Value.int .i64 o1) := (hB.cell (p := ⟨g, off + k * 3, none⟩) hbl).trans (hcell _ _ (flat_at chOp 3 (fun _ => rfl) ops k 0 _ hx (by omega)))
      have a1 : _ = some (Value.int .i64 o2) := (hB.cell (p := ⟨g, off + k * 3 + 1, none⟩) hbl).trans (hcell _ _ (flat_at chOp 3 (fun _ => rfl) ops k 1 _ hx (by omega)))
      have a2 : _ = some (Value.int .i64 o3) := (hB.cell (p := ⟨g, off + k * 3 + 2, none⟩) hbl).trans (hcell _ _ (flat_at chOp 3 (fun _ => rfl) ops k 2 _ hx (by omega)))
      obtain ⟨l1, l2, l3⟩ := cDo_law c hI (o1, o2, o3)
      have hBs := hB.size
      have hbl2 := Ob.lt hC
      have HC := Lib.hid hC
      have HI := Lib.hid hI
      have HB := Lib.hid hB
      have Hlast := Lib.hid hlast
      have Hmost := Lib.hid hmost
      clear hC hI hB hlast hmost hcell hx
      go_upto_region 13 with (fail)
      have hO := Ob.new wr 32 [.int .i64 o1, .int .i64 o2, .int .i64 o3]
      refine cutW (fun W => CAt W b c ∧ Ob W wr.heap.size 32 [.int .i64 o1, .int .i64 o2, .int .i64 o3] ∧ Below w.heap.size w W) ⟨Ob.alloc HC.out _, hO, HB.out.alloc hBs _⟩ ?_
      clear hO HC HB a0 a1 a2
      rintro W ⟨hC, hO, hB⟩
      have hoc := hO.cell
      have HC := Lib.hid hC
      have HO := Lib.hid hO
      have HB := Lib.hid hB
      have hNb : wr.heap.size ≠ b := by omega
      have hNw : w.heap.size ≤ wr.heap.size := hBs
      generalize wr.heap.size = N at *
      clear hC hO hB
      have hcon := cDo_any W b c HC.out HI.out (o1, o2, o3)
      generalize hr : cDo c (o1, o2, o3) = r at *
      have Hcon := Lib.hid hcon
      clear hr hcon
      obtain ⟨f, d⟩ := r
      simp only at l1 l2 l3 Hcon
      go_upto_region 14 with (go_at_call 20; refine Hcon.out.mono ?_; rintro en w3 ⟨rfl, hq1, hq2⟩)
      refine cutW (fun V => CAt V b d ∧ Ob V N 32 [.int .i64 o1, .int .i64 o2, .int .i64 o3] ∧ Below w.heap.size w V) ⟨hq1, HO.out.mods hq2 hNb, Below.mods HB.out hq2 (fun k hk => by omega) HB.out.size⟩ ?_
      clear hoc hq1 hq2 HC HO HB w3
      rintro V ⟨hC, hO, hB⟩
      have hoc := hO.cell
      have HC := Lib.hid hC
      have HO := Lib.hid hO
      have HB := Lib.hid hB
      clear hC hO hB
      obtain ⟨L, hL⟩ : ∃ L, clm d = L := ⟨_, rfl⟩
      obtain ⟨T, hT⟩ : ∃ T, d.cum = T := ⟨_, rfl⟩
      have hbd := clm_bd l1
      have hT0 := l1.cum0
      have hds : csum d = T + L := by unfold csum; rw [hL, hT]
      have hop : ¬ (1 ≤ d.st ∧ d.st ≤ 5) → L = 0 := fun h => by rw [← hL]; unfold clm; rw [if_neg h]
      have hst1 := l1.st1
      rw [hds] at l2 l3
      rw [hL, hT] at hbd
      rw [hT] at hT0
      have HL1 := Lib.hid l1
      have Hst := cStatus_any
      have Hds := Lib.hid hds
      have HcL := Lib.hid hL
      have HcT := Lib.hid hT
      have Hop := Lib.hid hop
      obtain ⟨z1, z2, z3⟩ := hbd
      have hlst := Hlast.out
      have hmst := Hmost.out
      have l2' : f ≠ 0 → T + L = last := fun h => by rw [hlst]; exact l2 h
      have l3' : T + L ≤ last ∨ (o1 = 10 ∧ T + L ≤ o2) := by rw [hlst]; exact l3
      have hmst' : last ≤ most := by rw [hlst]; exact hmst
      clear l1 hds hL hT hop Hst hlst hmst l2 l3
      have hcases : (o1 = 10 ∧ f = 0 ∧ most < o2) ∨ (o1 = 10 ∧ f = 0 ∧ o2 ≤ most) ∨ (o1 = 10 ∧ f ≠ 0) ∨ (o1 ≠ 10 ∧ f = 0) ∨ (o1 ≠ 10 ∧ f ≠ 0) := by omega
      rcases hcases with ⟨g1, g2, g3⟩ | ⟨g1, g2, g3⟩ | ⟨g1, g2⟩ | ⟨g1, g2⟩ | ⟨g1, g2⟩
      · subst g1 g2
        have l3'' : T + L ≤ o2 := by omega
        clear l2' l3'
        have hw : IntKind.i64.wrap (T + L) = T + L := by rw [IntWalk.i64_in _ (by omega)]
        have d1 : decide (T < 0) = false := by simp; omega
        have d2 : decide (L < 0) = false := by simp; omega
        have d3 : decide (o2 < T + L) = false := by simp; omega
        have hS : Calls Try.prog 21 #[.pointer (some ⟨b, 0, none⟩)] V fun e w' => e = .returned (.agg #[.string d.id, .string d.ve, .int .i64 d.sd, .int .i64 d.st, .int .i64 d.q, .int .i64 d.p, .int .i64 d.nq, .int .i64 d.np, .int .i64 T, .int .i64 L]) ∧ Below V.heap.size V w' := by
          have := cStatus_any V b d HC.out HL1.out
          rw [HcL.out, HcT.out] at this
          exact this
        have HS := Lib.hid hS
        clear hS
        go_upto_region 18 with (go_at_call 21; refine HS.out.mono ?_; rintro en w4 ⟨rfl, hb4⟩)
        have hOs := Ob.new w4 35 [.string d.id, .string d.ve, .int .i64 d.sd, .int .i64 d.st, .int .i64 d.q, .int .i64 d.p, .int .i64 d.nq, .int .i64 d.np, .int .i64 T, .int .i64 L]
        have hB4 := HB.out.trans (hb4.mono HB.out.size)
        refine cutW (fun Y => CAt Y b d ∧ Ob Y N 32 [.int .i64 10, .int .i64 o2, .int .i64 o3] ∧ Ob Y w4.heap.size 35 [.string d.id, .string d.ve, .int .i64 d.sd, .int .i64 d.st, .int .i64 d.q, .int .i64 d.p, .int .i64 d.nq, .int .i64 d.np, .int .i64 T, .int .i64 L] ∧ Below w.heap.size w Y) ⟨Ob.alloc (HC.out.below hb4) _, (HO.out.below hb4 HO.out.lt).alloc _, hOs, hB4.alloc hB4.size _⟩ ?_
        clear hoc hOs hB4 hb4 HC HO HB HS
        rintro Y ⟨hC, hO, hO4, hB⟩
        have hoc := hO.cell
        have hoc4 := hO4.cell
        have hcc := hC.cell
        have HC := Lib.hid hC
        have HB := Lib.hid hB
        generalize w4.heap.size = N4 at *
        clear hC hO hO4 hB
        go_cut [121] (fun v Z => v = .bool false ∧ Z = Y)
        case first =>
          by_cases hls : last < T + L
          · have d4 : decide (last < T + L) = true := by simpa using hls
            clear hls
            obtain ⟨bo, hbo⟩ : ∃ bo, decide (1 ≤ d.st ∧ d.st ≤ 5) = bo := ⟨_, rfl⟩
            have Hbo := Lib.hid hbo
            clear hbo
            cases bo with
            | true =>
              go_wp2_with (go_at_call 22; refine (cOpen_any _ b d.st true (hcc 3) hst1 Hbo.out).mono ?_; rintro e w' ⟨rfl, rfl⟩)
              go_meet
              exact ⟨rfl, rfl⟩
            | false =>
              have hL0 : L = 0 := Hop.out (of_decide_eq_false Hbo.out)
              have d6 : (L != 0) = false := by simpa using hL0
              clear hL0
              go_wp2_with (go_at_call 22; refine (cOpen_any _ b d.st false (hcc 3) hst1 Hbo.out).mono ?_; rintro e w' ⟨rfl, rfl⟩)
              go_meet
              exact ⟨rfl, rfl⟩
          · have d4 : decide (last < T + L) = false := by simpa using hls
            clear hls
            obtain ⟨bo, hbo⟩ : ∃ bo, decide (1 ≤ d.st ∧ d.st ≤ 5) = bo := ⟨_, rfl⟩
            have Hbo := Lib.hid hbo
            clear hbo
            cases bo with
            | true =>
              go_wp2_with (go_at_call 22; refine (cOpen_any _ b d.st true (hcc 3) hst1 Hbo.out).mono ?_; rintro e w' ⟨rfl, rfl⟩)
              go_meet
              exact ⟨rfl, rfl⟩
            | false =>
              have hL0 : L = 0 := Hop.out (of_decide_eq_false Hbo.out)
              have d6 : (L != 0) = false := by simpa using hL0
              clear hL0
              go_wp2_with (go_at_call 22; refine (cOpen_any _ b d.st false (hcc 3) hst1 Hbo.out).mono ?_; rintro e w' ⟨rfl, rfl⟩)
              go_meet
              exact ⟨rfl, rfl⟩
        case rest =>
          obtain ⟨rfl, rfl⟩ := hcut
          go_wp2_with fail
          go_roundw
          case rel => exact ⟨k + 1, d, o2, T + L, by omega, by go_num, rfl, rfl, HC.out, HL1.out, Hds.out.symm, by rw [Hds.out]; omega, HB.out⟩
          case measure => simp [intOf]; omega
      · subst g1 g2
        have l3'' : T + L ≤ most := by omega
        clear l2' l3'
        have hw : IntKind.i64.wrap (T + L) = T + L := by rw [IntWalk.i64_in _ (by omega)]
        have d1 : decide (T < 0) = false := by simp; omega
        have d2 : decide (L < 0) = false := by simp; omega
        have d3 : decide (most < T + L) = false := by simp; omega
        have hS : Calls Try.prog 21 #[.pointer (some ⟨b, 0, none⟩)] V fun e w' => e = .returned (.agg #[.string d.id, .string d.ve, .int .i64 d.sd, .int .i64 d.st, .int .i64 d.q, .int .i64 d.p, .int .i64 d.nq, .int .i64 d.np, .int .i64 T, .int .i64 L]) ∧ Below V.heap.size V w' := by
          have := cStatus_any V b d HC.out HL1.out
          rw [HcL.out, HcT.out] at this
          exact this
        have HS := Lib.hid hS
        clear hS
        go_upto_region 18 with (go_at_call 21; refine HS.out.mono ?_; rintro en w4 ⟨rfl, hb4⟩)
        have hOs := Ob.new w4 35 [.string d.id, .string d.ve, .int .i64 d.sd, .int .i64 d.st, .int .i64 d.q, .int .i64 d.p, .int .i64 d.nq, .int .i64 d.np, .int .i64 T, .int .i64 L]
        have hB4 := HB.out.trans (hb4.mono HB.out.size)
        refine cutW (fun Y => CAt Y b d ∧ Ob Y N 32 [.int .i64 10, .int .i64 o2, .int .i64 o3] ∧ Ob Y w4.heap.size 35 [.string d.id, .string d.ve, .int .i64 d.sd, .int .i64 d.st, .int .i64 d.q, .int .i64 d.p, .int .i64 d.nq, .int .i64 d.np, .int .i64 T, .int .i64 L] ∧ Below w.heap.size w Y) ⟨Ob.alloc (HC.out.below hb4) _, (HO.out.below hb4 HO.out.lt).alloc _, hOs, hB4.alloc hB4.size _⟩ ?_
        clear hoc hOs hB4 hb4 HC HO HB HS
        rintro Y ⟨hC, hO, hO4, hB⟩
        have hoc := hO.cell
        have hoc4 := hO4.cell
        have hcc := hC.cell
        have HC := Lib.hid hC
        have HB := Lib.hid hB
        generalize w4.heap.size = N4 at *
        clear hC hO hO4 hB
        go_cut [121] (fun v Z => v = .bool false ∧ Z = Y)
        case first =>
          by_cases hls : last < T + L
          · have d4 : decide (last < T + L) = true := by simpa using hls
            clear hls
            obtain ⟨bo, hbo⟩ : ∃ bo, decide (1 ≤ d.st ∧ d.st ≤ 5) = bo := ⟨_, rfl⟩
            have Hbo := Lib.hid hbo
            clear hbo
            cases bo with
            | true =>
              go_wp2_with (go_at_call 22; refine (cOpen_any _ b d.st true (hcc 3) hst1 Hbo.out).mono ?_; rintro e w' ⟨rfl, rfl⟩)
              go_meet
              exact ⟨rfl, rfl⟩
            | false =>
              have hL0 : L = 0 := Hop.out (of_decide_eq_false Hbo.out)
              have d6 : (L != 0) = false := by simpa using hL0
              clear hL0
              go_wp2_with (go_at_call 22; refine (cOpen_any _ b d.st false (hcc 3) hst1 Hbo.out).mono ?_; rintro e w' ⟨rfl, rfl⟩)
              go_meet
              exact ⟨rfl, rfl⟩
          · have d4 : decide (last < T + L) = false := by simpa using hls
            clear hls
            obtain ⟨bo, hbo⟩ : ∃ bo, decide (1 ≤ d.st ∧ d.st ≤ 5) = bo := ⟨_, rfl⟩
            have Hbo := Lib.hid hbo
            clear hbo
            cases bo with
            | true =>
              go_wp2_with (go_at_call 22; refine (cOpen_any _ b d.st true (hcc 3) hst1 Hbo.out).mono ?_; rintro e w' ⟨rfl, rfl⟩)
              go_meet
              exact ⟨rfl, rfl⟩
            | false =>
              have hL0 : L = 0 := Hop.out (of_decide_eq_false Hbo.out)
              have d6 : (L != 0) = false := by simpa using hL0
              clear hL0
              go_wp2_with (go_at_call 22; refine (cOpen_any _ b d.st false (hcc 3) hst1 Hbo.out).mono ?_; rintro e w' ⟨rfl, rfl⟩)
              go_meet
              exact ⟨rfl, rfl⟩
        case rest =>
          obtain ⟨rfl, rfl⟩ := hcut
          go_wp2_with fail
          go_roundw
          case rel => exact ⟨k + 1, d, most, T + L, by omega, by go_num, rfl, rfl, HC.out, HL1.out, Hds.out.symm, by rw [Hds.out]; omega, HB.out⟩
          case measure => simp [intOf]; omega
      · subst g1
        have l3'' : T + L = last := l2' g2
        have e5 : (f != 0) = true := by simpa using g2
        have e5' : (f == 0) = false := by simpa using g2
        have e7 : (T + L != last) = false := by simpa using l3''
        have l4 : T + L ≤ last := by omega
        clear l2' l3' g2 l3''
        have hw : IntKind.i64.wrap (T + L) = T + L := by rw [IntWalk.i64_in _ (by omega)]
        have d1 : decide (T < 0) = false := by simp; omega
        have d2 : decide (L < 0) = false := by simp; omega
        have d3 : decide (most < T + L) = false := by simp; omega
        have hS : Calls Try.prog 21 #[.pointer (some ⟨b, 0, none⟩)] V fun e w' => e = .returned (.agg #[.string d.id, .string d.ve, .int .i64 d.sd, .int .i64 d.st, .int .i64 d.q, .int .i64 d.p, .int .i64 d.nq, .int .i64 d.np, .int .i64 T, .int .i64 L]) ∧ Below V.heap.size V w' := by
          have := cStatus_any V b d HC.out HL1.out
          rw [HcL.out, HcT.out] at this
          exact this
        have HS := Lib.hid hS
        clear hS
        go_upto_region 18 with (go_at_call 21; refine HS.out.mono ?_; rintro en w4 ⟨rfl, hb4⟩)
        have hOs := Ob.new w4 35 [.string d.id, .string d.ve, .int .i64 d.sd, .int .i64 d.st, .int .i64 d.q, .int .i64 d.p, .int .i64 d.nq, .int .i64 d.np, .int .i64 T, .int .i64 L]
        have hB4 := HB.out.trans (hb4.mono HB.out.size)
        refine cutW (fun Y => CAt Y b d ∧ Ob Y N 32 [.int .i64 10, .int .i64 o2, .int .i64 o3] ∧ Ob Y w4.heap.size 35 [.string d.id, .string d.ve, .int .i64 d.sd, .int .i64 d.st, .int .i64 d.q, .int .i64 d.p, .int .i64 d.nq, .int .i64 d.np, .int .i64 T, .int .i64 L] ∧ Below w.heap.size w Y) ⟨Ob.alloc (HC.out.below hb4) _, (HO.out.below hb4 HO.out.lt).alloc _, hOs, hB4.alloc hB4.size _⟩ ?_
        clear hoc hOs hB4 hb4 HC HO HB HS
        rintro Y ⟨hC, hO, hO4, hB⟩
        have hoc := hO.cell
        have hoc4 := hO4.cell
        have hcc := hC.cell
        have HC := Lib.hid hC
        have HB := Lib.hid hB
        generalize w4.heap.size = N4 at *
        clear hC hO hO4 hB
        go_cut [121] (fun v Z => v = .bool false ∧ Z = Y)
        case first =>
          have d4 : decide (last < T + L) = false := by simp; omega
          obtain ⟨bo, hbo⟩ : ∃ bo, decide (1 ≤ d.st ∧ d.st ≤ 5) = bo := ⟨_, rfl⟩
          have Hbo := Lib.hid hbo
          clear hbo
          cases bo with
          | true =>
            go_wp2_with (go_at_call 22; refine (cOpen_any _ b d.st true (hcc 3) hst1 Hbo.out).mono ?_; rintro e w' ⟨rfl, rfl⟩)
            go_meet
            exact ⟨rfl, rfl⟩
          | false =>
            have hL0 : L = 0 := Hop.out (of_decide_eq_false Hbo.out)
            have d6 : (L != 0) = false := by simpa using hL0
            clear hL0
            go_wp2_with (go_at_call 22; refine (cOpen_any _ b d.st false (hcc 3) hst1 Hbo.out).mono ?_; rintro e w' ⟨rfl, rfl⟩)
            go_meet
            exact ⟨rfl, rfl⟩
        case rest =>
          obtain ⟨rfl, rfl⟩ := hcut
          go_wp2_with fail
          go_roundw
          case rel => exact ⟨k + 1, d, most, T + L, by omega, by go_num, rfl, rfl, HC.out, HL1.out, Hds.out.symm, by rw [Hds.out]; omega, HB.out⟩
          case measure => simp [intOf]; omega
      · subst g2
        have l4 : T + L ≤ last := by omega
        have e1 : (o1 == 10) = false := by simpa using g1
        have e1' : (o1 != 10) = true := by simpa using g1
        clear l2' l3' g1
        have hw : IntKind.i64.wrap (T + L) = T + L := by rw [IntWalk.i64_in _ (by omega)]
        have d1 : decide (T < 0) = false := by simp; omega
        have d2 : decide (L < 0) = false := by simp; omega
        have d3 : decide (most < T + L) = false := by simp; omega
        have hS : Calls Try.prog 21 #[.pointer (some ⟨b, 0, none⟩)] V fun e w' => e = .returned (.agg #[.string d.id, .string d.ve, .int .i64 d.sd, .int .i64 d.st, .int .i64 d.q, .int .i64 d.p, .int .i64 d.nq, .int .i64 d.np, .int .i64 T, .int .i64 L]) ∧ Below V.heap.size V w' := by
          have := cStatus_any V b d HC.out HL1.out
          rw [HcL.out, HcT.out] at this
          exact this
        have HS := Lib.hid hS
        clear hS
        go_upto_region 18 with (go_at_call 21; refine HS.out.mono ?_; rintro en w4 ⟨rfl, hb4⟩)
        have hOs := Ob.new w4 35 [.string d.id, .string d.ve, .int .i64 d.sd, .int .i64 d.st, .int .i64 d.q, .int .i64 d.p, .int .i64 d.nq, .int .i64 d.np, .int .i64 T, .int .i64 L]
        have hB4 := HB.out.trans (hb4.mono HB.out.size)
        refine cutW (fun Y => CAt Y b d ∧ Ob Y N 32 [.int .i64 o1, .int .i64 o2, .int .i64 o3] ∧ Ob Y w4.heap.size 35 [.string d.id, .string d.ve, .int .i64 d.sd, .int .i64 d.st, .int .i64 d.q, .int .i64 d.p, .int .i64 d.nq, .int .i64 d.np, .int .i64 T, .int .i64 L] ∧ Below w.heap.size w Y) ⟨Ob.alloc (HC.out.below hb4) _, (HO.out.below hb4 HO.out.lt).alloc _, hOs, hB4.alloc hB4.size _⟩ ?_
        clear hoc hOs hB4 hb4 HC HO HB HS
        rintro Y ⟨hC, hO, hO4, hB⟩
        have hoc := hO.cell
        have hoc4 := hO4.cell
        have hcc := hC.cell
        have HC := Lib.hid hC
        have HB := Lib.hid hB
        generalize w4.heap.size = N4 at *
        clear hC hO hO4 hB
        go_cut [121] (fun v Z => v = .bool false ∧ Z = Y)
        case first =>
          have d4 : decide (last < T + L) = false := by simp; omega
          obtain ⟨bo, hbo⟩ : ∃ bo, decide (1 ≤ d.st ∧ d.st ≤ 5) = bo := ⟨_, rfl⟩
          have Hbo := Lib.hid hbo
          clear hbo
          cases bo with
          | true =>
            go_wp2_with (go_at_call 22; refine (cOpen_any _ b d.st true (hcc 3) hst1 Hbo.out).mono ?_; rintro e w' ⟨rfl, rfl⟩)
            go_meet
            exact ⟨rfl, rfl⟩
          | false =>
            have hL0 : L = 0 := Hop.out (of_decide_eq_false Hbo.out)
            have d6 : (L != 0) = false := by simpa using hL0
            clear hL0
            go_wp2_with (go_at_call 22; refine (cOpen_any _ b d.st false (hcc 3) hst1 Hbo.out).mono ?_; rintro e w' ⟨rfl, rfl⟩)
            go_meet
            exact ⟨rfl, rfl⟩
        case rest =>
          obtain ⟨rfl, rfl⟩ := hcut
          go_wp2_with fail
          go_roundw
          case rel => exact ⟨k + 1, d, most, T + L, by omega, by go_num, rfl, rfl, HC.out, HL1.out, Hds.out.symm, by rw [Hds.out]; omega, HB.out⟩
          case measure => simp [intOf]; omega
      · have l3'' : T + L = last := l2' g2
        have l4 : T + L ≤ last := by omega
        have e5 : (f != 0) = true := by simpa using g2
        have e7 : (T + L != last) = false := by simpa using l3''
        have e1 : (o1 == 10) = false := by simpa using g1
        have e1' : (o1 != 10) = true := by simpa using g1
        clear l2' l3' g1 g2 l3''
        have hw : IntKind.i64.wrap (T + L) = T + L := by rw [IntWalk.i64_in _ (by omega)]
        have d1 : decide (T < 0) = false := by simp; omega
        have d2 : decide (L < 0) = false := by simp; omega
        have d3 : decide (most < T + L) = false := by simp; omega
        have hS : Calls Try.prog 21 #[.pointer (some ⟨b, 0, none⟩)] V fun e w' => e = .returned (.agg #[.string d.id, .string d.ve, .int .i64 d.sd, .int .i64 d.st, .int .i64 d.q, .int .i64 d.p, .int .i64 d.nq, .int .i64 d.np, .int .i64 T, .int .i64 L]) ∧ Below V.heap.size V w' := by
          have := cStatus_any V b d HC.out HL1.out
          rw [HcL.out, HcT.out] at this
          exact this
        have HS := Lib.hid hS
        clear hS
        go_upto_region 18 with (go_at_call 21; refine HS.out.mono ?_; rintro en w4 ⟨rfl, hb4⟩)
        have hOs := Ob.new w4 35 [.string d.id, .string d.ve, .int .i64 d.sd, .int .i64 d.st, .int .i64 d.q, .int .i64 d.p, .int .i64 d.nq, .int .i64 d.np, .int .i64 T, .int .i64 L]
        have hB4 := HB.out.trans (hb4.mono HB.out.size)
        refine cutW (fun Y => CAt Y b d ∧ Ob Y N 32 [.int .i64 o1, .int .i64 o2, .int .i64 o3] ∧ Ob Y w4.heap.size 35 [.string d.id, .string d.ve, .int .i64 d.sd, .int .i64 d.st, .int .i64 d.q, .int .i64 d.p, .int .i64 d.nq, .int .i64 d.np, .int .i64 T, .int .i64 L] ∧ Below w.heap.size w Y) ⟨Ob.alloc (HC.out.below hb4) _, (HO.out.below hb4 HO.out.lt).alloc _, hOs, hB4.alloc hB4.size _⟩ ?_
        clear hoc hOs hB4 hb4 HC HO HB HS
        rintro Y ⟨hC, hO, hO4, hB⟩
        have hoc := hO.cell
        have hoc4 := hO4.cell
        have hcc := hC.cell
        have HC := Lib.hid hC
        have HB := Lib.hid hB
        generalize w4.heap.size = N4 at *
        clear hC hO hO4 hB
        go_cut [121] (fun v Z => v = .bool false ∧ Z = Y)
        case first =>
          have d4 : decide (last < T + L) = false := by simp; omega
          obtain ⟨bo, hbo⟩ : ∃ bo, decide (1 ≤ d.st ∧ d.st ≤ 5) = bo := ⟨_, rfl⟩
          have Hbo := Lib.hid hbo
          clear hbo
          cases bo with
          | true =>
            go_wp2_with (go_at_call 22; refine (cOpen_any _ b d.st true (hcc 3) hst1 Hbo.out).mono ?_; rintro e w' ⟨rfl, rfl⟩)
            go_meet
            exact ⟨rfl, rfl⟩
          | false =>
            have hL0 : L = 0 := Hop.out (of_decide_eq_false Hbo.out)
            have d6 : (L != 0) = false := by simpa using hL0
            clear hL0
            go_wp2_with (go_at_call 22; refine (cOpen_any _ b d.st false (hcc 3) hst1 Hbo.out).mono ?_; rintro e w' ⟨rfl, rfl⟩)
            go_meet
            exact ⟨rfl, rfl⟩
        case rest =>
          obtain ⟨rfl, rfl⟩ := hcut
          go_wp2_with fail
          go_roundw
          case rel => exact ⟨k + 1, d, most, T + L, by omega, by go_num, rfl, rfl, HC.out, HL1.out, Hds.out.symm, by rw [Hds.out]; omega, HB.out⟩
          case measure => simp [intOf]; omega
    · have HB := Lib.hid hB
      clear hC hI hlast hmost hB
      go_wp2_with fail
      go_ret
      exact ⟨rfl, HB.out⟩

end Go.Proofs.Ytjhlaifflhjafaa
