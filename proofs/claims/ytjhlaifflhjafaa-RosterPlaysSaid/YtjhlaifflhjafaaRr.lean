import Derived.Test.YtjhlaifflhjafaaRq
import Derived.Deep.DeepCutAuto
import Derived.Deep.RegionHeld3
namespace Go.Proofs.Ytjhlaifflhjafaa
open Go.RowKit

/-- RosterPlays' loop: the program's roster and the document's. -/
structure RJ (w W : World) (rb gt gn R fb gs : Nat) (slots : List ByteArray) (seats : List Seat) (v : Value) : Prop where
  hr : RosAt W rb gt gn R slots seats v
  hf : RefAt W fb gs R slots
  hb : Below w.heap.size w W
  b1 : w.heap.size ≤ rb
  b2 : w.heap.size ≤ gt
  b3 : w.heap.size ≤ gn
  l1 : rb < gs
  l2 : gs < fb
  hv : ∀ k, v.ownBlock = some k → fb < k
theorem RJ.mods {w W W' : World} {rb gt gn R fb gs : Nat} {slots : List ByteArray} {seats : List Seat} {v : Value} (h : RJ w W rb gt gn R fb gs slots seats v) (hm : Mods (fun _ => False) W W') : RJ w W' rb gt gn R fb gs slots seats v :=
  ⟨h.hr.mods hm id id id (fun _ _ => id), h.hf.mods hm id id, Below.mods h.hb hm (fun _ h => h.elim) h.hb.size, h.b1, h.b2, h.b3, h.l1, h.l2, h.hv⟩
theorem RJ.below {w W W' : World} {rb gt gn R fb gs : Nat} {slots : List ByteArray} {seats : List Seat} {v : Value} (h : RJ w W rb gt gn R fb gs slots seats v) (hb : Below W.heap.size W W') : RJ w W' rb gt gn R fb gs slots seats v := h.mods (Below.mods_ hb _)
/-- Behind the program's step: the document's roster is as it was. -/
structure RJm (w W W1 : World) (rb gt gn R fb gs : Nat) (slots slots' : List ByteArray) (seats' : List Seat) (v v' : Value) : Prop where
  h : ∃ seats, RJ w W rb gt gn R fb gs slots seats v
  hr : RosAt W1 rb gt gn R slots' seats' v'
  hm : RosM W W1 rb gt gn v v'
theorem RJm.ref {w W W1 : World} {rb gt gn R fb gs : Nat} {slots slots' : List ByteArray} {seats' : List Seat} {v v' : Value} (h : RJm w W W1 rb gt gn R fb gs slots slots' seats' v v') : RefAt W1 fb gs R slots := by
  obtain ⟨seats, hj⟩ := h.h
  have q1 := hj.l1
  have q2 := hj.l2
  have q3 := hj.hr.l1
  have q4 := hj.hr.l2
  refine hj.hf.mods h.hm.1 ?_ ?_
  · rintro (h | h | h | h)
    · omega
    · omega
    · omega
    · have := hj.hv _ h; omega
  · rintro (h | h | h | h)
    · omega
    · omega
    · omega
    · have := hj.hv _ h; omega
theorem RJm.both {w W W1 W2 : World} {rb gt gn R fb gs : Nat} {slots slots' : List ByteArray} {seats' : List Seat} {v v' : Value} (h : RJm w W W1 rb gt gn R fb gs slots slots' seats' v v') (hm : Mods (fun k => k = gs) W1 W2) (hf : RefAt W2 fb gs R slots') : RJ w W2 rb gt gn R fb gs slots' seats' v' := by
  obtain ⟨seats, hj⟩ := h.h
  have q1 := hj.l1
  have q2 := hj.l2
  have q3 := hj.hr.l1
  have q4 := hj.hr.l2
  have q5 := hj.b1
  have hfl := hj.hf.ho.lt
  have hv' : ∀ k, v'.ownBlock = some k → fb < k := fun k hk => by
    rcases h.hm.2 with e | ⟨j, e, hj2⟩
    · exact hj.hv k (by rw [← e]; exact hk)
    · rw [hk] at e; injection e with e; omega
  refine ⟨h.hr.mods hm (by omega) (by omega) (by omega) (fun k hk he => by have := hv' k hk; omega), hf, ?_, hj.b1, hj.b2, hj.b3, q1, q2, hv'⟩
  exact Below.mods (h.hm.below hj.hr hj.hb hj.b1 hj.b2 hj.b3) hm (fun k hk => by omega) (Nat.le_trans hj.hb.size h.hm.1.size)
theorem RJm.op {w W W1 : World} {rb gt gn R fb gs : Nat} {slots slots' : List ByteArray} {seats' : List Seat} {v v' : Value} (h : RJm w W W1 rb gt gn R fb gs slots slots' seats' v v') {N : Nat} {t : TypeId} {cs : List Value} (hO : Ob W N t cs) (h1 : fb < N) (h2 : ∀ k, v.ownBlock = some k → k < N) : Ob W1 N t cs := by
  obtain ⟨seats, hj⟩ := h.h
  have q1 := hj.l1
  have q2 := hj.l2
  have q3 := hj.hr.l1
  have q4 := hj.hr.l2
  refine hO.mods h.hm.1 ?_
  rintro (h | h | h | h)
  · omega
  · omega
  · omega
  · have := h2 _ h; omega

set_option maxHeartbeats 8000000 in
set_option maxRecDepth 100000 in
theorem rosterPlays_in (w : World) (R : Nat) (hR1 : 1 ≤ R) (hR2 : R ≤ 300) (A : Option Addr) (n c : Nat) (ops : List ROp) (hr : Rd w A n 3 (ops.flatMap roCells)) (hl : ops.length = n) :
    Calls Try.prog 8 #[.int .i64 R, .slice A n c] w fun e w' => e = .returned (.bool true) ∧ Below w.heap.size w w' := by
  have h9 := hr.2.1
  have HR := Lib.hid hr
  have HL := Lib.hid hl
  clear hr hl
  have hmk : ∀ W : World, (Instr.makeSlice 68 (.int .i64 (R : Int)) (.int .i64 (R : Int))).run Try.prog W = .ok (.slice (some ⟨W.heap.size, 0, none⟩) R R) (W.alloc (.cells ((List.replicate R em).map Value.string).toArray 9)) := fun W => by
    obtain ⟨i0, hi0, hz0, hz1, hz2⟩ := info_parts info9
    have hr := run_make (P := Try.prog) W 68 9 i0 (.string ⟨#[]⟩) Try.underlying68 hi0 hz0 .i64 .i64 R R (by omega) (by omega) (by rw [hz2]; omega) (by omega)
    simp only [Int.toNat_natCast] at hr
    rw [hr, hz1, Nat.mul_one, made_one _ rfl, List.map_replicate]
    rfl
  obtain ⟨cs1, hcs1⟩ : ∃ cs1, ((List.replicate R em).map Value.string).toArray = cs1 := ⟨_, rfl⟩
  rw [hcs1] at hmk
  have HCs := Lib.hid hcs1
  have HMk := Lib.hid hmk
  clear hmk hcs1
  go_enter Try.func8, Try.ntmps8
  go_wp2_with fail
  refine (awake15 _).mono ?_
  rintro e w1 ⟨rfl, hb1⟩
  have hs1 := hb1.size
  go_wp2_with fail
  refine (few25 w1 A n c ops (HR.out.below hb1) HL.out).mono ?_
  obtain ⟨fb, hfb⟩ : ∃ fb, fewR ops = fb := ⟨_, rfl⟩
  rw [hfb]
  rintro e w2 ⟨rfl, hb2⟩
  have hB2 := hb1.trans (hb2.mono hs1)
  have HF := Lib.hid hfb
  have HB2 := Lib.hid hB2
  clear hfb hb1 hb2 hB2
  cases fb with
  | false =>
    go_wp2_with fail
    go_ret
    exact ⟨rfl, HB2.out⟩
  | true =>
  have d1 : decide ((R : Int) < 1) = false := by simp; omega
  have d2 : decide ((1024 : Int) < (R : Int)) = false := by simp; omega
  have d3 : decide ((300 : Int) < (R : Int)) = false := by simp; omega
  go_wp2_with fail
  refine (rosNew_yes _ R hR1 (by omega)).mono ?_
  rintro e w3 ⟨rb, gt, gn, rfl, hro, q1, q2, q3, hb3⟩
  have hs2 := HB2.out.size
  have hB3 := HB2.out.trans (hb3.mono hs2)
  have hrl := hro.ho.lt
  have HRo := Lib.hid hro
  have HB3 := Lib.hid hB3
  have hmk := HMk.out w3
  clear hro hb3 hB3 HB2
  go_upto_region 11 with (fail)
  have hK0 : RJ w ((w3.alloc (.cells cs1 9)).alloc (.cells #[.slice (some ⟨w3.heap.size, 0, none⟩) R R] 70)) rb gt gn R (w3.heap.size + 1) w3.heap.size (List.replicate R em) [] (.slice none 0 0) :=
    ⟨(HRo.out.below Below.alloc_set).below Below.alloc_set, ⟨Ob.new2 w3 _ 70 _, by rw [← HCs.out]; exact (Ob.new w3 9 ((List.replicate R em).map Value.string)).alloc _, by simp, by omega, by omega⟩, (HB3.out.alloc HB3.out.size _).alloc (by have := HB3.out.size; simp; omega) _, by omega, by omega, by omega, by omega, by omega, fun k hk => by cases hk⟩
  refine cutW (fun W => RJ w W rb gt gn R (w3.heap.size + 1) w3.heap.size (List.replicate R em) [] (.slice none 0 0)) hK0 ?_
  clear hK0 HRo HB3 hmk HMk d1 d2 d3
  generalize w3.heap.size = gs at *
  generalize hfbb : gs + 1 = fb at *
  clear hfbb
  intro W hK
  have HK0 := Lib.hid hK
  clear hK
  go_wp2_with fail
  go_loopw [63] (fun i wx => ∃ (k : Nat) (slots : List ByteArray) (seats : List Seat) (v : Value), k ≤ n ∧ i = .int .i64 k ∧ RJ w wx rb gt gn R fb gs slots seats v) (fun i _ => n - (intOf i).toNat)
  case atStart => exact ⟨0, _, _, _, by omega, rfl, HK0.out⟩
  case round =>
    clear HK0
    obtain ⟨k, slots, seats, v, hk, rfl, hK⟩ := hrel
    have HK := Lib.hid hK
    clear hK
    by_cases hlt : k < n
    · obtain ⟨x, hx⟩ : ∃ x, ops[k]? = some x := ⟨_, List.getElem?_eq_getElem (by have := HL.out; omega)⟩
      obtain ⟨ga, off, hA, hbl, hcell⟩ := rop_cells HR.out hlt hx
      subst hA
      have hsz : x.2.2.size ≤ 200 := by
        have hf := HF.out
        unfold fewR at hf
        simp only [Bool.and_eq_true] at hf
        have := List.all_eq_true.1 hf.1 x (List.mem_of_getElem? hx)
        simpa [okRo] using this
      obtain ⟨xk, xs, nm⟩ := x
      simp only at hsz
      have a : ∀ j, j < 3 → wr.cell? ⟨ga, off + k * 3 + j, none⟩ = [Value.int .i64 xk, .int .i64 xs, .string nm][j]? := fun j hj => (HK.out.hb.cell (p := ⟨ga, off + k * 3 + j, none⟩) hbl).trans (hcell j hj)
      have a0 : wr.cell? ⟨ga, off + k * 3, none⟩ = some (.int .i64 xk) := a 0 (by omega)
      have a1 : _ = some _ := a 1 (by omega)
      have a2 : _ = some _ := a 2 (by omega)
      clear hcell a hx
      go_upto_region 14 with (fail)
      have hO := Ob.new wr 53 [.int .i64 xk, .int .i64 xs, .string nm]
      refine cutW (fun W => Ob W wr.heap.size 53 [.int .i64 xk, .int .i64 xs, .string nm] ∧ RJ w W rb gt gn R fb gs slots seats v) ⟨hO, HK.out.below Below.alloc_set⟩ ?_
      have hfN : fb < wr.heap.size := HK.out.hf.ho.lt
      have hvN : ∀ k, v.ownBlock = some k → k < wr.heap.size := own_lt HK.out.hr.hown
      have HvN := Lib.hid hvN
      clear hO HK a0 a1 a2 hvN
      generalize wr.heap.size = N at *
      rintro V ⟨hO, hK⟩
      have hc := hO.cell
      have HK := Lib.hid hK
      have HO := Lib.hid hO
      clear hO hK
      go_upto_block 2 with (fail)
      go_cut [] (fun wx => ∃ slots' seats' v', RJ w wx rb gt gn R fb gs slots' seats' v' ∧ Ob wx N 53 [.int .i64 xk, .int .i64 xs, .string nm])
      case first =>
        by_cases k1 : xk = 1
        · subst k1
          obtain ⟨r, hr⟩ : ∃ r, putS slots nm = r := ⟨_, rfl⟩
          obtain ⟨⟨ra, re⟩, sl2⟩ := r
          have hc1 : Calls Try.prog 27 #[.pointer (some ⟨rb, 0, none⟩), .string nm] V fun e w' => e = .returned (.tuple #[.int .i64 ra, .int .i64 re]) ∧ ∃ seats' v', RJm w V w' rb gt gn R fb gs slots sl2 seats' v v' := by
            have := rosPut V rb gt gn R slots seats v HK.out.hr nm
            rw [hr] at this
            exact this.mono fun e w' ⟨he, s', v', h1, h2⟩ => ⟨he, s', v', ⟨_, HK.out⟩, h1, h2⟩
          have hc2 : ∀ W1 seats' v', RJm w V W1 rb gt gn R fb gs slots sl2 seats' v v' → Calls Try.prog 37 #[.pointer (some ⟨fb, 0, none⟩), .string nm] W1 fun e w' => e = .returned (.tuple #[.int .i64 ra, .int .i64 re]) ∧ RJ w w' rb gt gn R fb gs sl2 seats' v' ∧ Mods (fun k => k = gs) W1 w' := fun W1 seats' v' hm => by
            have := refPut W1 fb gs R slots hm.ref nm (by omega)
            rw [hr] at this
            exact this.mono fun e w' ⟨he, h1, h2⟩ => ⟨he, hm.both h2 h1, h2⟩
          have HC1 := Lib.hid hc1
          have HC2 := Lib.hid hc2
          clear hc1 hc2 hr
          go_wp2_with fail
          refine HC1.out.mono ?_
          rintro e W1 ⟨rfl, s1, v1, hm1⟩
          have hO1 := hm1.op HO.out hfN HvN.out
          have hc1 := hO1.cell
          have HM1 := Lib.hid hm1
          have HO1 := Lib.hid hO1
          clear hm1 hO1 hc HC1
          go_wp2_with fail
          refine (HC2.out _ _ _ HM1.out).mono ?_
          rintro e W2 ⟨rfl, hj2, hm2⟩
          have hO2 := HO1.out.mods hm2 (by have := HK.out.l2; omega)
          have HJ2 := Lib.hid hj2
          have HO2 := Lib.hid hO2
          clear hj2 hm2 hO2 HC2 hc1
          go_wp2_with fail
          go_meet
          exact ⟨_, _, _, HJ2.out, HO2.out⟩
        by_cases k2 : xk = 2
        · subst k2
          obtain ⟨r, hr⟩ : ∃ r, dropS slots nm = r := ⟨_, rfl⟩
          obtain ⟨re, sl2⟩ := r
          have hc1 : ∀ j, Calls Try.prog 29 #[.pointer (some ⟨rb, 0, none⟩), .string nm] (V.drewN j) fun e w' => e = .returned (.int .i64 re) ∧ ∃ seats' v', RJm w (V.drewN j) w' rb gt gn R fb gs slots sl2 seats' v v' := fun j => by
            have hj := HK.out.below (Below.drewN (Below.refl _ _) j)
            have := rosDrop (V.drewN j) rb gt gn R slots seats v hj.hr nm
            rw [hr] at this
            exact this.mono fun e w' ⟨he, s', v', h1, h2⟩ => ⟨he, s', v', ⟨_, hj⟩, h1, h2⟩
          have hc2 : ∀ j W1 seats' v', RJm w (V.drewN j) W1 rb gt gn R fb gs slots sl2 seats' v v' → Calls Try.prog 38 #[.pointer (some ⟨fb, 0, none⟩), .string nm] W1 fun e w' => e = .returned (.int .i64 re) ∧ RJ w w' rb gt gn R fb gs sl2 seats' v' ∧ Mods (fun k => k = gs) W1 w' := fun j W1 seats' v' hm => by
            have := refDrop W1 fb gs R slots hm.ref nm
            rw [hr] at this
            exact this.mono fun e w' ⟨he, h1, h2⟩ => ⟨he, hm.both h2 h1, h2⟩
          have HC1 := Lib.hid hc1
          have HC2 := Lib.hid hc2
          have f1 : V.cell? ⟨N, 2, none⟩ = some (.string nm) := hc 2
          have hgN : gs < N := by have := HK.out.l2; omega
          clear hc1 hc2 hr
          go_upto_region 21 with (fail)
          go_region_held3 (fun w' => w'.cell? ⟨N, 2, none⟩ = some (.string nm)) (first | exact f1 | exact g1 | exact h1 | go_keep)
            (first
              | (go_at_call 29; refine (HC1.out _).mono ?_; rintro e W1 ⟨rfl, s1, v1, hm1⟩; have hO1 := hm1.op (HO.out.drewN _) hfN HvN.out; have g1 := hO1.cell 2; have HM1 := Lib.hid hm1; have HO1 := Lib.hid hO1; clear hm1 hO1)
              | (go_at_call 38; refine (HC2.out _ _ _ _ HM1.out).mono ?_; rintro e W2 ⟨rfl, hj2, hm2⟩; have hO2 := HO1.out.mods hm2 (by omega); have h1 := hO2.cell 2; have HJ2 := Lib.hid hj2; have HO2 := Lib.hid hO2; clear hj2 hm2 hO2))
          go_wp2_with fail
          go_meet
          exact ⟨_, _, _, HJ2.out, HO2.out⟩
        have k1' : (xk == 1) = false := by simpa using k1
        have k2' : (xk == 2) = false := by simpa using k2
        clear k1 k2
        go_wp2_with fail
        go_meet
        exact ⟨_, _, _, HK.out, HO.out⟩
      case rest =>
        obtain ⟨sl, se, v4, hK4, hO4⟩ := hcut
        clear HK HO hc HvN
        have hc := hO4.cell
        have hfd := rosFind wc rb gt gn R sl se v4 hK4.hr nm
        have hrf0 := fun W hW => refFind W fb gs R sl hW nm
        have hls := hK4.hf.hl
        have hsR := hK4.hr.len
        obtain ⟨a, b, d, hfi, hri, hrel⟩ : ∃ (a : Int) (b : Bool) (d : Int), findS sl nm = (a, b) ∧ refI sl nm = d ∧ ((∃ i : Nat, a = i ∧ b = true ∧ d = i) ∨ (b = false ∧ a = 0 ∧ d = -1)) := by
          unfold findS refI
          cases fndS sl nm with
          | some i => exact ⟨_, _, _, rfl, rfl, .inl ⟨i, rfl, rfl, rfl⟩⟩
          | none => exact ⟨_, _, _, rfl, rfl, .inr ⟨rfl, rfl, rfl⟩⟩
        rw [hfi] at hfd
        rw [hri] at hrf0
        obtain ⟨sn, hsn⟩ : ∃ sn, nameS sl xs = sn := ⟨_, rfl⟩
        have hrn0 := fun W hW => rosName W rb gt gn R sl se v4 hW xs
        rw [hsn] at hrn0
        have HRf := Lib.hid hrf0
        have HRn := Lib.hid hrn0
        have HFd := Lib.hid hfd
        have HK := Lib.hid hK4
        have HO := Lib.hid hO4
        have HLs := Lib.hid hls
        have HSn := Lib.hid hsn
        have HRel := Lib.hid hrel
        clear hfd hK4 hO4 hls hfi hri hrf0 hrn0 hsn hrel
        go_upto_region 24 with (go_at_call 30; refine HFd.out.mono ?_; rintro e W5 ⟨rfl, hb5⟩)
        refine cutW (fun W => RJ w W rb gt gn R fb gs sl se v4 ∧ Ob W N 53 [.int .i64 xk, .int .i64 xs, .string nm]) ⟨HK.out.below hb5, HO.out.below hb5 HO.out.lt⟩ ?_
        clear hc hb5 HK HO HFd
        rintro U ⟨hK, hO⟩
        have hc := hO.cell
        have HK := Lib.hid hK
        clear hK hO
        go_upto_region 27 with (first
          | (go_at_call 39; refine (HRf.out _ HK.out.hf).mono ?_; rintro e w' ⟨rfl, rfl⟩)
          | (go_at_call 31; refine (HRn.out _ HK.out.hr).mono ?_; rintro e w' ⟨rfl, rfl⟩))
        clear HRf HRn
        by_cases hx0 : xs < 0
        · have d1 : decide ((0 : Int) ≤ xs) = false := by simp; omega
          have hse : sn = em := by rw [← HSn.out]; exact if_neg (by omega)
          subst hse
          clear hx0
          go_upto_region 29 with (fail)
          refine cutW (fun W => RJ w W rb gt gn R fb gs sl se v4) (HK.out) ?_
          clear HK hc
          rintro Z hK
          have hso := refSorted Z fb gs R sl hK.hf se hK.hr.inv
          have HSo := Lib.hid hso
          have HK := Lib.hid hK
          clear hso hK
          go_upto_region 30 with (go_at_call 40; refine HSo.out.mono ?_; rintro e W7 ⟨v7, rfl, hown7, hb7⟩; obtain ⟨A7, c7, hv7, hR7, -, -⟩ := own_shape hown7; subst hv7)
          have HR7 := Lib.hid hR7
          have HK7 := Lib.hid (HK.out.below hb7)
          have hcn := rosCount W7 rb gt gn R sl se v4 HK7.out.hr
          have hso2 := rosSorted W7 rb gt gn R sl se v4 HK7.out.hr
          generalize hsl : se.length = m at *
          have HCn := Lib.hid hcn
          have HSo2 := Lib.hid hso2
          have HSl := Lib.hid hsl
          clear hcn hso2 hsl hR7 hown7 hb7 HSo
          have hsame := fun W8 A8 c8 hb8 hR8 => refSame W8 A8 A7 m c8 c7 se hR8 (HR7.out.below hb8) HSl.out (by omega)
          have HSame : Hid (∀ (W8 : World) (A8 : Option Addr) (c8 : Nat), Below W7.heap.size W7 W8 → Rd W8 A8 m 1 (se.map nmC) → Calls Try.prog 41 #[.slice A8 m c8, .slice A7 m c7] W8 fun e w' => e = .returned (.bool true) ∧ ∃ k, w' = W8.drewN k) := Lib.hid hsame
          clear hsame
          rcases HRel.out with ⟨i, rfl, rfl, rfl⟩ | ⟨rfl, rfl, rfl⟩
          all_goals
            have e5 := em_isE
            have e6 := em_nil
            have e7 := emB_em
            clear HRel
            go_wp2_with (first
              | (go_at_call 28; refine HCn.out.mono ?_; rintro e w' ⟨rfl, rfl⟩)
              | (go_at_call 42; refine HSo2.out.mono ?_; rintro e W8 ⟨v8, rfl, hown8, hb8⟩; obtain ⟨A8, c8, hv8, hR8, -, -⟩ := own_shape hown8; subst hv8)
              | (go_at_call 41; refine (HSame.out _ _ _ hb8 hR8).mono ?_; rintro e w' ⟨rfl, q, rfl⟩))
            have HK9 := Lib.hid ((HK7.out.below hb8).below (Below.drewN (Below.refl _ _) q))
            clear hown8 hb8 hR8
            go_roundw
            case rel => exact ⟨k + 1, _, _, _, by omega, by go_num, HK9.out⟩
            case measure => simp [intOf]; omega
        obtain ⟨i0, rfl⟩ : ∃ i : Nat, xs = i := ⟨xs.toNat, by omega⟩
        clear hx0
        by_cases hx1 : i0 < R
        · have d2 : decide (i0 < R) = true := by simpa using hx1
          obtain ⟨s0, hs0⟩ : ∃ s, sl[i0]? = some s := ⟨_, List.getElem?_eq_getElem (by rw [HLs.out]; exact hx1)⟩
          have hse : s0 = sn := by
            rw [← HSn.out]
            unfold nameS
            rw [if_pos (by have := HLs.out; omega), List.getD_eq_getElem?_getD, Int.toNat_natCast, hs0]; rfl
          subst hse
          have x1 := HK.out.hf.ho.cell 0
          have x2 := HK.out.hf.cell hs0
          have x3 : U.cell? ⟨N, 1, none⟩ = some (.int .i64 i0) := hc 1
          have d0 : (0 : Int) ≤ i0 := by omega
          clear hs0
          go_upto_region 28 with (fail)
          go_quiet (fail)
          go_upto_region 29 with (fail)
          refine cutW (fun W => RJ w W rb gt gn R fb gs sl se v4) (HK.out.below (Below.drewN (Below.refl _ _) _)) ?_
          clear HK hc x1 x2 x3
          rintro Z hK
          have hso := refSorted Z fb gs R sl hK.hf se hK.hr.inv
          have HSo := Lib.hid hso
          have HK := Lib.hid hK
          clear hso hK
          go_upto_region 30 with (go_at_call 40; refine HSo.out.mono ?_; rintro e W7 ⟨v7, rfl, hown7, hb7⟩; obtain ⟨A7, c7, hv7, hR7, -, -⟩ := own_shape hown7; subst hv7)
          have HR7 := Lib.hid hR7
          have HK7 := Lib.hid (HK.out.below hb7)
          have hcn := rosCount W7 rb gt gn R sl se v4 HK7.out.hr
          have hso2 := rosSorted W7 rb gt gn R sl se v4 HK7.out.hr
          generalize hsl : se.length = m at *
          have HCn := Lib.hid hcn
          have HSo2 := Lib.hid hso2
          have HSl := Lib.hid hsl
          clear hcn hso2 hsl hR7 hown7 hb7 HSo
          have hsame := fun W8 A8 c8 hb8 hR8 => refSame W8 A8 A7 m c8 c7 se hR8 (HR7.out.below hb8) HSl.out (by omega)
          have HSame : Hid (∀ (W8 : World) (A8 : Option Addr) (c8 : Nat), Below W7.heap.size W7 W8 → Rd W8 A8 m 1 (se.map nmC) → Calls Try.prog 41 #[.slice A8 m c8, .slice A7 m c7] W8 fun e w' => e = .returned (.bool true) ∧ ∃ k, w' = W8.drewN k) := Lib.hid hsame
          clear hsame
          rcases HRel.out with ⟨i, rfl, rfl, rfl⟩ | ⟨rfl, rfl, rfl⟩
          all_goals
            cases hem : emB s0 with
            | true =>
              have hse := emB_iff.1 hem
              subst hse
              clear hem
              have e5 := em_isE
              have e6 := em_nil
              have e7 := emB_em
              clear HRel
              go_wp2_with (first
                | (go_at_call 28; refine HCn.out.mono ?_; rintro e w' ⟨rfl, rfl⟩)
                | (go_at_call 42; refine HSo2.out.mono ?_; rintro e W8 ⟨v8, rfl, hown8, hb8⟩; obtain ⟨A8, c8, hv8, hR8, -, -⟩ := own_shape hown8; subst hv8)
                | (go_at_call 41; refine (HSame.out _ _ _ hb8 hR8).mono ?_; rintro e w' ⟨rfl, q, rfl⟩))
              have HK9 := Lib.hid ((HK7.out.below hb8).below (Below.drewN (Below.refl _ _) q))
              clear hown8 hb8 hR8
              go_roundw
              case rel => exact ⟨k + 1, _, _, _, by omega, by go_num, HK9.out⟩
              case measure => simp [intOf]; omega
            | false =>
              have e5 : s0.toList.isEmpty = false := ne_isE hem
              have e6 : ¬ s0.toList = [] := by simpa using e5
              have e7 : (s0.toList == []) = false := by simpa using e6
              clear HRel
              go_wp2_with (first
                | (go_at_call 28; refine HCn.out.mono ?_; rintro e w' ⟨rfl, rfl⟩)
                | (go_at_call 42; refine HSo2.out.mono ?_; rintro e W8 ⟨v8, rfl, hown8, hb8⟩; obtain ⟨A8, c8, hv8, hR8, -, -⟩ := own_shape hown8; subst hv8)
                | (go_at_call 41; refine (HSame.out _ _ _ hb8 hR8).mono ?_; rintro e w' ⟨rfl, q, rfl⟩))
              have HK9 := Lib.hid ((HK7.out.below hb8).below (Below.drewN (Below.refl _ _) q))
              clear hown8 hb8 hR8
              go_roundw
              case rel => exact ⟨k + 1, _, _, _, by omega, by go_num, HK9.out⟩
              case measure => simp [intOf]; omega
        · have d2 : decide (i0 < R) = false := by simpa using hx1
          have hse : sn = em := by rw [← HSn.out]; exact if_neg (by have := HLs.out; omega)
          subst hse
          go_upto_region 29 with (fail)
          refine cutW (fun W => RJ w W rb gt gn R fb gs sl se v4) (HK.out) ?_
          clear HK hc
          rintro Z hK
          have hso := refSorted Z fb gs R sl hK.hf se hK.hr.inv
          have HSo := Lib.hid hso
          have HK := Lib.hid hK
          clear hso hK
          go_upto_region 30 with (go_at_call 40; refine HSo.out.mono ?_; rintro e W7 ⟨v7, rfl, hown7, hb7⟩; obtain ⟨A7, c7, hv7, hR7, -, -⟩ := own_shape hown7; subst hv7)
          have HR7 := Lib.hid hR7
          have HK7 := Lib.hid (HK.out.below hb7)
          have hcn := rosCount W7 rb gt gn R sl se v4 HK7.out.hr
          have hso2 := rosSorted W7 rb gt gn R sl se v4 HK7.out.hr
          generalize hsl : se.length = m at *
          have HCn := Lib.hid hcn
          have HSo2 := Lib.hid hso2
          have HSl := Lib.hid hsl
          clear hcn hso2 hsl hR7 hown7 hb7 HSo
          have hsame := fun W8 A8 c8 hb8 hR8 => refSame W8 A8 A7 m c8 c7 se hR8 (HR7.out.below hb8) HSl.out (by omega)
          have HSame : Hid (∀ (W8 : World) (A8 : Option Addr) (c8 : Nat), Below W7.heap.size W7 W8 → Rd W8 A8 m 1 (se.map nmC) → Calls Try.prog 41 #[.slice A8 m c8, .slice A7 m c7] W8 fun e w' => e = .returned (.bool true) ∧ ∃ k, w' = W8.drewN k) := Lib.hid hsame
          clear hsame
          rcases HRel.out with ⟨i, rfl, rfl, rfl⟩ | ⟨rfl, rfl, rfl⟩
          all_goals
            have e5 := em_isE
            have e6 := em_nil
            have e7 := emB_em
            clear HRel
            go_wp2_with (first
              | (go_at_call 28; refine HCn.out.mono ?_; rintro e w' ⟨rfl, rfl⟩)
              | (go_at_call 42; refine HSo2.out.mono ?_; rintro e W8 ⟨v8, rfl, hown8, hb8⟩; obtain ⟨A8, c8, hv8, hR8, -, -⟩ := own_shape hown8; subst hv8)
              | (go_at_call 41; refine (HSame.out _ _ _ hb8 hR8).mono ?_; rintro e w' ⟨rfl, q, rfl⟩))
            have HK9 := Lib.hid ((HK7.out.below hb8).below (Below.drewN (Below.refl _ _) q))
            clear hown8 hb8 hR8
            go_roundw
            case rel => exact ⟨k + 1, _, _, _, by omega, by go_num, HK9.out⟩
            case measure => simp [intOf]; omega
    · go_wp2_with fail
      go_ret
      exact ⟨rfl, HK.out.hb⟩

end Go.Proofs.Ytjhlaifflhjafaa
