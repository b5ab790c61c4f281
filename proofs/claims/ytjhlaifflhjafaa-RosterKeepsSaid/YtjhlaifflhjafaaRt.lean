import Derived.Test.YtjhlaifflhjafaaRs
import Derived.Deep.DeepCutAuto
namespace Go.Proofs.Ytjhlaifflhjafaa
open Go.RowKit

set_option maxHeartbeats 8000000 in
set_option maxRecDepth 100000 in
theorem rosterKeeps_in (w : World) (R : Nat) (hR1 : 1 ≤ R) (hR2 : R ≤ 100) (nm : ByteArray) (hnv : nameB nm = true) (A : Option Addr) (n c : Nat) (ops : List ROp) (hr : Rd w A n 3 (ops.flatMap roCells)) (hl : ops.length = n) (hf : fewR ops = true) :
    Calls Try.prog 6 #[.int .i64 R, .string nm, .slice A n c] w fun e w' => e = .returned (.bool true) ∧ Below w.heap.size w w' := by
  have h9 := hr.2.1
  have hnn := nameB_ne hnv
  have hps : putS (List.replicate R em) nm = ((0, 0), (List.replicate R em).set 0 nm) := by
    have hf0 : fndS (List.replicate R em) nm = none := fndS_none (fun i hi => by
      rw [List.getElem?_replicate] at hi
      split at hi
      · injection hi with hi; exact hi.symm
      · cases hi)
    have hfr : freeI (List.replicate R em) = 0 := idxP_eq emB (k := 0) (fun j y hj => by omega) (by rw [List.getElem?_replicate, if_pos (by omega)]) emB_em
    unfold putS
    rw [if_pos hnv, hf0]
    simp only
    rw [hfr, if_pos (by simp; omega)]
    rfl
  have hp0 : ((List.replicate R em).set 0 nm)[0]? = some nm := by rw [List.getElem?_set_self (by simp; omega)]
  have HR := Lib.hid hr
  have HL := Lib.hid hl
  have HF := Lib.hid hf
  have HNV := Lib.hid hnv
  have HNN := Lib.hid hnn
  have HPS := Lib.hid hps
  have HP0 := Lib.hid hp0
  have d1 : decide ((R : Int) < 1) = false := by simp; omega
  have d2 : decide ((100 : Int) < (R : Int)) = false := by simp; omega
  have d3 : ¬ R = 0 := by omega
  clear hr hl hf hnv hnn hps hp0
  go_enter Try.func6, Try.ntmps6
  go_upto_region 5 with (first
      | (go_at_call 15; refine (awake15 _).mono ?_; rintro e w1 ⟨rfl, hb1⟩)
      | (go_at_call 25; refine (few25 _ A n c ops (HR.out.below hb1) HL.out).mono ?_; rw [HF.out]; rintro e w2 ⟨rfl, hb2⟩)
      | (go_at_call 16; refine (kValid _ nm).mono ?_; rw [HNV.out]; rintro e w3 ⟨rfl, hb3⟩))
  have hB3 := (hb1.trans (hb2.mono hb1.size)).trans (hb3.mono (Nat.le_trans hb1.size hb2.size))
  have HB3 := Lib.hid hB3
  have hs3 := hB3.size
  clear hb1 hb2 hb3 hB3
  go_wp2_with fail
  refine (rosNew_yes _ R hR1 (by omega)).mono ?_
  rintro e w4 ⟨rb, gt, gn, rfl, hro, q1, q2, q3, hb4⟩
  have hK4 : RK w w4 rb gt gn R (List.replicate R em) [] (.slice none 0 0) := ⟨hro, HB3.out.trans (hb4.mono hs3), by omega, by omega, by omega⟩
  have HK4 := Lib.hid hK4
  clear hro hb4 hK4 HB3
  go_wp2_with fail
  refine (rosPut w4 rb gt gn R _ _ _ HK4.out.hr nm).mono ?_
  rw [HPS.out]
  rintro e w5 ⟨rfl, se0, v0, hr5, hm5⟩
  have HK0 := Lib.hid (HK4.out.step hr5 hm5)
  clear hr5 hm5 HK4
  go_wp2_with fail
  go_loopw [64] (fun i wx => ∃ (k : Nat) (slots : List ByteArray) (seats : List Seat) (v : Value), k ≤ n ∧ i = .int .i64 k ∧ RK w wx rb gt gn R slots seats v ∧ slots[0]? = some nm) (fun i _ => n - (intOf i).toNat)
  case atStart => exact ⟨0, _, _, _, by omega, rfl, HK0.out, HP0.out⟩
  case round =>
    clear HK0 d1 d2 d3
    obtain ⟨k, slots, seats, v, hk, rfl, hK, hp⟩ := hrel
    have HK := Lib.hid hK
    have HP := Lib.hid hp
    clear hK hp
    by_cases hlt : k < n
    · obtain ⟨x, hx⟩ : ∃ x, ops[k]? = some x := ⟨_, List.getElem?_eq_getElem (by have := HL.out; omega)⟩
      obtain ⟨ga, off, hA, hbl, hcell⟩ := rop_cells HR.out hlt hx
      subst hA
      obtain ⟨xk, xs, xm⟩ := x
      have a : ∀ j, j < 3 → wr.cell? ⟨ga, off + k * 3 + j, none⟩ = [Value.int .i64 xk, .int .i64 xs, .string xm][j]? := fun j hj => (HK.out.hb.cell (p := ⟨ga, off + k * 3 + j, none⟩) hbl).trans (hcell j hj)
      have a0 : wr.cell? ⟨ga, off + k * 3, none⟩ = some (.int .i64 xk) := a 0 (by omega)
      have a1 : _ = some _ := a 1 (by omega)
      have a2 : _ = some _ := a 2 (by omega)
      clear hcell a hx
      go_upto_region 14 with (fail)
      have hO := Ob.new wr 53 [.int .i64 xk, .int .i64 xs, .string xm]
      refine cutW (fun W => Ob W wr.heap.size 53 [.int .i64 xk, .int .i64 xs, .string xm] ∧ RK w W rb gt gn R slots seats v) ⟨hO, HK.out.below Below.alloc_set⟩ ?_
      have hrN : rb < wr.heap.size := HK.out.hr.ho.lt
      have hvN : ∀ k, v.ownBlock = some k → k < wr.heap.size := own_lt HK.out.hr.hown
      have HvN := Lib.hid hvN
      clear hO HK a0 a1 a2 hvN
      generalize wr.heap.size = N at *
      rintro V ⟨hO, hK⟩
      have hc := hO.cell
      have HK := Lib.hid hK
      have HO := Lib.hid hO
      clear hO hK
      by_cases hxn : xm = nm
      · subst hxn
        clear HvN
        go_wp2_with fail
        go_roundw
        case rel => exact ⟨k + 1, _, _, _, by omega, by go_num, HK.out, HP.out⟩
        case measure => simp [intOf]; omega
      · have hne : ¬ xm.toList = nm.toList := fun e => hxn (toList_inj e)
        have hneb : (xm.toList == nm.toList) = false := by simpa using hne
        have hcn := rosCount V rb gt gn R slots seats v HK.out.hr
        have hsl := HK.out.hr.len
        have hsR := HK.out.hr.hl
        have hfull := HK.out.hr.inv.full
        have HCn := Lib.hid hcn
        have HXN := Lib.hid hxn
        have HsR := Lib.hid hsR
        have HFull := Lib.hid hfull
        clear hcn hxn hsR hfull
        go_upto_block 2 with (go_at_call 28; refine HCn.out.mono ?_; rintro e w' ⟨rfl, rfl⟩)
        go_cut [13] (fun s13 wx => ∃ slots' seats' v', RK w wx rb gt gn R slots' seats' v' ∧ slots'[0]? = some nm)
        case first =>
          by_cases k1 : xk = 1
          · subst k1
            obtain ⟨hk1, hk2⟩ := put_keeps (x := xm) HP.out HNN.out
            obtain ⟨r, hr⟩ : ∃ r, putS slots xm = r := ⟨_, rfl⟩
            have hpt := rosPut V rb gt gn R slots seats v HK.out.hr xm
            rw [hr] at hpt hk1 hk2
            obtain ⟨⟨ra, re⟩, sl2⟩ := r
            have HPt := Lib.hid hpt
            have HK1 := Lib.hid hk1
            have HK2 := Lib.hid hk2
            clear hpt hk1 hk2 hr
            by_cases hre : re = 0
            · subst hre
              obtain ⟨z1, z2, z3⟩ := HK2.out rfl
              have z1 : ra = ((freeI slots : Nat) : Int) := z1
              generalize hfr : freeI slots = f at *
              subst z1
              have hfu := HFull.out z2
              have b0 : ((seats.length : Int) == (R : Int)) = false := by have := HsR.out; simp; omega
              have b1 : ((f : Int) == 0) = false := by simp; omega
              have b4 : (f == 0) = false := by simpa using z3
              have b3 : decide (R ≤ f) = false := by have := HsR.out; simp; omega
              have b5 : ¬ R ≤ f := by have := HsR.out; omega
              have b6 : ¬ seats.length = R := by have := HsR.out; omega
              clear hfu z2 hfr
              go_wp2_with (go_at_call 27; refine HPt.out.mono ?_; rintro e W5 ⟨rfl, s5, v5, hr5, hm5⟩)
              go_meet
              exact ⟨_, _, _, HK.out.step hr5 hm5, HK1.out⟩
            · have b1 : (re == 0) = false := by simpa using hre
              clear hre
              go_wp2_with (go_at_call 27; refine HPt.out.mono ?_; rintro e W5 ⟨rfl, s5, v5, hr5, hm5⟩)
              go_meet
              exact ⟨_, _, _, HK.out.step hr5 hm5, HK1.out⟩
          by_cases k2 : xk = 2
          · subst k2
            have hdk := drop_keeps (x := xm) HP.out HXN.out
            have HDK := Lib.hid hdk
            have HDp := Lib.hid (rosDrop V rb gt gn R slots seats v HK.out.hr xm)
            clear hdk
            go_wp2_with (go_at_call 29; refine HDp.out.mono ?_; rintro e W5 ⟨rfl, s5, v5, hr5, hm5⟩)
            go_meet
            exact ⟨_, _, _, HK.out.step hr5 hm5, HDK.out⟩
          have k1' : (xk == 1) = false := by simpa using k1
          have k2' : (xk == 2) = false := by simpa using k2
          clear k1 k2
          go_wp2_with fail
          go_meet
          exact ⟨_, _, _, HK.out, HP.out⟩
        case rest =>
          obtain ⟨sl, se, v4, hK4, hp4⟩ := hcut
          clear HK HO hc HvN HP HCn hsl
          have hfd := rosFind wc rb gt gn R sl se v4 hK4.hr nm
          have hfs : findS sl nm = (0, true) := by unfold findS; rw [hK4.hr.inv.fnd_mem (hK4.hr.inv.ls 0 nm hp4 HNN.out)]; rfl
          rw [hfs] at hfd
          have hnm := fun W hW => rosName W rb gt gn R sl se v4 hW ((0 : Nat) : Int)
          rw [nameS_at hp4, emB_ne HNN.out] at hnm
          have hlen := hK4.hr.len
          have hc4 := fun W hW => rosCount W rb gt gn R sl se v4 hW
          have d5 : decide (R < se.length) = false := by simp; omega
          have HFd := Lib.hid hfd
          have HNm : Hid (∀ W, RosAt W rb gt gn R sl se v4 → Calls Try.prog 31 #[.pointer (some ⟨rb, 0, none⟩), .int .i64 0] W fun e w' => e = .returned (.tuple #[.string nm, .bool true]) ∧ W = w') := Lib.hid hnm
          have HC4 := Lib.hid hc4
          have HK4 := Lib.hid hK4
          have HP4 := Lib.hid hp4
          clear hfd hfs hnm hc4 hK4 hp4
          go_wp2_with (first
            | (go_at_call 30; refine HFd.out.mono ?_; rintro e W6 ⟨rfl, hb6⟩; have HK6 := Lib.hid (HK4.out.below hb6); clear hb6)
            | (go_at_call 31; refine (HNm.out _ HK6.out.hr).mono ?_; rintro e w' ⟨rfl, rfl⟩)
            | (go_at_call 28; refine (HC4.out _ HK6.out.hr).mono ?_; rintro e w' ⟨rfl, rfl⟩))
          go_roundw
          case rel => exact ⟨k + 1, _, _, _, by omega, by go_num, HK6.out, HP4.out⟩
          case measure => simp [intOf]; omega
    · go_wp2_with fail
      go_ret
      exact ⟨rfl, HK.out.hb⟩

theorem rosterKeeps_walk (w : World) (room : Int) (nm : ByteArray) (hnm : nm.size ≤ maxLen) (A : Option Addr) (n c : Nat) (ops : List ROp) (hr : Rd w A n 3 (ops.flatMap roCells)) (hl : ops.length = n) :
    Calls Try.prog 6 #[.int .i64 room, .string nm, .slice A n c] w fun e w' => e = .returned (.bool true) ∧ Below w.heap.size w w' := by
  by_cases h : fewR ops = false ∨ room < 1 ∨ 100 < room ∨ nameB nm = false
  · exact rosterKeeps_out w room nm A n c ops hr hl h
  · obtain ⟨R, rfl⟩ : ∃ R : Nat, room = R := ⟨room.toNat, by omega⟩
    exact rosterKeeps_in w R (by omega) (by omega) nm (by cases hb : nameB nm with | true => rfl | false => exact absurd (Or.inr (Or.inr (Or.inr hb))) h) A n c ops hr hl (by cases hb : fewR ops with | true => rfl | false => exact absurd (Or.inl hb) h)

end Go.Proofs.Ytjhlaifflhjafaa
