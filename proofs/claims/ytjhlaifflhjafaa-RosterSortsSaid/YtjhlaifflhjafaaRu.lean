import Derived.Test.YtjhlaifflhjafaaRs
import Derived.Deep.DeepCutAuto
namespace Go.Proofs.Ytjhlaifflhjafaa
open Go.RowKit

set_option maxHeartbeats 1600000 in
set_option maxRecDepth 100000 in
theorem rosterSorts_out (w : World) (room : Int) (A : Option Addr) (n c : Nat) (ops : List ROp) (hr : Rd w A n 3 (ops.flatMap roCells)) (hl : ops.length = n) (h : fewR ops = false ∨ room < 1 ∨ 100 < room) :
    Calls Try.prog 10 #[.int .i64 room, .slice A n c] w fun e w' => e = .returned (.bool true) ∧ Below w.heap.size w w' := by
  have hfw := fun W hb => few25 W A n c ops (hr.below hb) hl
  generalize fewR ops = fb at *
  have HFw : Hid (∀ W, Below w.heap.size w W → Calls Try.prog 25 #[.slice A n c] W fun e w' => e = .returned (.bool fb) ∧ Below W.heap.size W w') := Lib.hid hfw
  clear hfw hr hl
  cases fb with
  | false =>
    clear h
    go_enter Try.func10, Try.ntmps10
    go_wp2_with (first
      | (go_at_call 15; refine (awake15 _).mono ?_; rintro e w1 ⟨rfl, hb1⟩)
      | (go_at_call 25; refine (HFw.out _ hb1).mono ?_; rintro e w2 ⟨rfl, hb2⟩))
    go_ret
    exact ⟨rfl, hb1.trans (hb2.mono hb1.size)⟩
  | true =>
  replace h : room < 1 ∨ 100 < room := by rcases h with h | h; cases h; exact h
  by_cases h1 : room < 1
  · have d1 : decide (room < 1) = true := by simpa using h1
    clear h h1
    go_enter Try.func10, Try.ntmps10
    go_wp2_with (first
      | (go_at_call 15; refine (awake15 _).mono ?_; rintro e w1 ⟨rfl, hb1⟩)
      | (go_at_call 25; refine (HFw.out _ hb1).mono ?_; rintro e w2 ⟨rfl, hb2⟩))
    go_ret
    exact ⟨rfl, hb1.trans (hb2.mono hb1.size)⟩
  replace h := h.resolve_left h1
  have d1 : decide (room < 1) = false := by simpa using h1
  have d2 : decide (100 < room) = true := by simpa using h
  clear h h1
  go_enter Try.func10, Try.ntmps10
  go_wp2_with (first
    | (go_at_call 15; refine (awake15 _).mono ?_; rintro e w1 ⟨rfl, hb1⟩)
    | (go_at_call 25; refine (HFw.out _ hb1).mono ?_; rintro e w2 ⟨rfl, hb2⟩))
  go_ret
  exact ⟨rfl, hb1.trans (hb2.mono hb1.size)⟩

theorem ne_isE' {s : ByteArray} (h : s ≠ em) : s.toList.isEmpty = false := by
  have : ¬ s.toList = [] := fun e => h (emB_iff.1 (by simp [emB, e]))
  simpa using this
set_option maxHeartbeats 16000000 in
set_option maxRecDepth 100000 in
theorem rosterSorts_in (w : World) (R : Nat) (hR1 : 1 ≤ R) (hR2 : R ≤ 100) (A : Option Addr) (n c : Nat) (ops : List ROp) (hr : Rd w A n 3 (ops.flatMap roCells)) (hl : ops.length = n) (hf : fewR ops = true) :
    Calls Try.prog 10 #[.int .i64 R, .slice A n c] w fun e w' => e = .returned (.bool true) ∧ Below w.heap.size w w' := by
  have h9 := hr.2.1
  have HR := Lib.hid hr
  have HL := Lib.hid hl
  have HF := Lib.hid hf
  have d1 : decide ((R : Int) < 1) = false := by simp; omega
  have d2 : decide ((100 : Int) < (R : Int)) = false := by simp; omega
  have d3 : ¬ R = 0 := by omega
  clear hr hl hf
  go_enter Try.func10, Try.ntmps10
  go_upto_region 5 with (first
      | (go_at_call 15; refine (awake15 _).mono ?_; rintro e w1 ⟨rfl, hb1⟩)
      | (go_at_call 25; refine (few25 _ A n c ops (HR.out.below hb1) HL.out).mono ?_; rw [HF.out]; rintro e w2 ⟨rfl, hb2⟩))
  have hB3 := hb1.trans (hb2.mono hb1.size)
  have HB3 := Lib.hid hB3
  have hs3 := hB3.size
  clear hb1 hb2 hB3
  go_wp2_with fail
  refine (rosNew_yes _ R hR1 (by omega)).mono ?_
  rintro e w4 ⟨rb, gt, gn, rfl, hro, q1, q2, q3, hb4⟩
  have hK4 : RK w w4 rb gt gn R (List.replicate R em) [] (.slice none 0 0) := ⟨hro, HB3.out.trans (hb4.mono hs3), by omega, by omega, by omega⟩
  have HK0 := Lib.hid hK4
  clear hro hb4 hK4 HB3 q1 q2 q3
  go_wp2_with fail
  go_loopw [41] (fun i wx => ∃ (k : Nat) (slots : List ByteArray) (seats : List Seat) (v : Value), k ≤ n ∧ i = .int .i64 k ∧ RK w wx rb gt gn R slots seats v ∧ VL slots) (fun i _ => n - (intOf i).toNat)
  case atStart => exact ⟨0, _, _, _, by omega, rfl, HK0.out, VL.start R⟩
  case round =>
    clear HK0 d1 d2
    obtain ⟨k, slots, seats, v, hk, rfl, hK, hvl⟩ := hrel
    have HK := Lib.hid hK
    have HVl := Lib.hid hvl
    clear hK hvl
    by_cases hlt : k < n
    · obtain ⟨x, hx⟩ : ∃ x, ops[k]? = some x := ⟨_, List.getElem?_eq_getElem (by have := HL.out; omega)⟩
      obtain ⟨ga, off, hA, hbl, hcell⟩ := rop_cells HR.out hlt hx
      subst hA
      obtain ⟨xk, xs, xm⟩ := x
      have a : ∀ j, j < 3 → wr.cell? ⟨ga, off + k * 3 + j, none⟩ = [Value.int .i64 xk, .int .i64 xs, .string xm][j]? := fun j hj => (HK.out.hb.cell (p := ⟨ga, off + k * 3 + j, none⟩) hbl).trans (hcell j hj)
      have a0 : wr.cell? ⟨ga, off + k * 3, none⟩ = some (.int .i64 xk) := a 0 (by omega)
      have a1 : _ = some _ := a 1 (by omega)
      have a2 : _ = some _ := a 2 (by omega)
      clear hcell a hx
      go_upto_region 11 with (fail)
      have hO := Ob.new wr 53 [.int .i64 xk, .int .i64 xs, .string xm]
      refine cutW (fun W => Ob W wr.heap.size 53 [.int .i64 xk, .int .i64 xs, .string xm] ∧ RK w W rb gt gn R slots seats v) ⟨hO, HK.out.below Below.alloc_set⟩ ?_
      clear hO HK a0 a1 a2
      rintro V ⟨hO, hK⟩
      have hc := hO.cell
      have HK := Lib.hid hK
      clear hO hK
      by_cases k2 : xk = 2
      · subst k2
        have HDp := Lib.hid (rosDrop V rb gt gn R slots seats v HK.out.hr xm)
        go_wp2_with (go_at_call 29; refine HDp.out.mono ?_; rintro e W5 ⟨rfl, s5, v5, hr5, hm5⟩)
        have HK5 := Lib.hid (HK.out.step hr5 hm5)
        clear hr5 hm5
        go_roundw
        case rel => exact ⟨k + 1, _, _, _, by omega, by go_num, HK5.out, HVl.out.drop xm⟩
        case measure => simp [intOf]; omega
      · have k2' : (xk == 2) = false := by simpa using k2
        have HPt := Lib.hid (rosPut V rb gt gn R slots seats v HK.out.hr xm)
        clear k2
        go_wp2_with (go_at_call 27; refine HPt.out.mono ?_; rintro e W5 ⟨rfl, s5, v5, hr5, hm5⟩)
        have HK5 := Lib.hid (HK.out.step hr5 hm5)
        clear hr5 hm5
        go_roundw
        case rel => exact ⟨k + 1, _, _, _, by omega, by go_num, HK5.out, HVl.out.put xm⟩
        case measure => simp [intOf]; omega
    · have hs := rosSorted wr rb gt gn R slots seats v HK.out.hr
      have hsl := HK.out.hr.len
      have hrb := HK.out.hr.ho.lt
      generalize hm : seats.length = m at *
      have HM := Lib.hid hm
      have HS := Lib.hid hs
      have HVo : Hid (∀ q, v.ownBlock = some q → q < wr.heap.size) := Lib.hid (own_lt HK.out.hr.hown)
      clear hs hm
      go_upto_region 16 with (go_at_call 42; refine HS.out.mono ?_; rintro e W6 ⟨v6, rfl, hown6, hb6⟩; obtain ⟨A6, c6, hv6, -, -, -⟩ := own_shape hown6; subst hv6)
      have hK6 := HK.out.below hb6
      have hB0 : w.heap.size ≤ wr.heap.size := HK.out.hb.size
      refine cutW (fun W => RK w W rb gt gn R slots seats v ∧ W.ownsRow wr.heap.size 9 1 (.slice A6 m c6) m (seats.map nmC)) ⟨hK6, hown6⟩ ?_
      clear hown6 hb6 hK6 HK HS
      generalize wr.heap.size = B at *
      rintro Z ⟨hK, hown⟩
      have HK := Lib.hid hK
      have HOw := Lib.hid hown
      clear hK hown
      go_wp2_with fail
      go_loopw [61] (fun i wx => ∃ k : Nat, k ≤ m ∧ i = .int .i64 k ∧ RK w wx rb gt gn R slots seats v ∧ wx.ownsRow B 9 1 (.slice A6 m c6) m (seats.map nmC)) (fun i _ => m - (intOf i).toNat)
      case atStart => exact ⟨0, by omega, rfl, HK.out, HOw.out⟩
      case round =>
        clear HK HOw
        obtain ⟨k, hk, rfl, hK, hown⟩ := hrel
        have HK := Lib.hid hK
        have HOw := Lib.hid hown
        clear hK hown
        by_cases hlt : k < m
        · obtain ⟨p, hp⟩ : ∃ p, seats[k]? = some p := ⟨_, List.getElem?_eq_getElem (by rw [HM.out]; exact hlt)⟩
          obtain ⟨nm, i⟩ := p
          have hmem := List.mem_of_getElem? hp
          obtain ⟨hsi, hnem⟩ := HK.out.hr.inv.sl _ hmem
          simp only at hsi hnem
          have hfn := HK.out.hr.inv.fnd_mem hmem
          have hfd := rosFind wr rb gt gn R slots seats v HK.out.hr nm
          have hfs : findS slots nm = ((i : Int), true) := by unfold findS; rw [hfn]
          rw [hfs] at hfd
          have hnm := fun W hW => rosName W rb gt gn R slots seats v hW (i : Int)
          rw [nameS_at hsi, emB_ne hnem] at hnm
          have hnv := HVl.out i nm hsi hnem
          have hvd := fun W => kValid W nm
          rw [hnv] at hvd
          have HFd := Lib.hid hfd
          have HNm := Lib.hid hnm
          have HVd := Lib.hid hvd
          obtain ⟨g, cur, hA6, -, hg, -, -, -, -⟩ := own_ob HOw.out (by omega)
          subst hA6
          have hcs := HOw.out.cells (g := g) rfl
          have x0 : wr.cell? ⟨g, k, none⟩ = some (.string nm) := by
            have := hcs k _ (by rw [List.getElem?_map, hp]; rfl)
            rwa [Go.WideShapes.add_plain, Nat.zero_add] at this
          have hprev : 0 < k → ∃ nm' i', seats[k - 1]? = some (nm', i') ∧ bl nm' nm = true := fun h0 => by
            obtain ⟨q, hq⟩ : ∃ q, seats[k - 1]? = some q := ⟨_, List.getElem?_eq_getElem (by rw [HM.out]; omega)⟩
            have h1 := (List.getElem?_eq_some_iff.1 hq).1
            have h2 := (List.getElem?_eq_some_iff.1 hp).1
            have := List.pairwise_iff_getElem.1 HK.out.hr.inv.srt (k - 1) k h1 h2 (by omega)
            rw [(List.getElem?_eq_some_iff.1 hq).2, (List.getElem?_eq_some_iff.1 hp).2] at this
            exact ⟨q.1, q.2, hq, this⟩
          have HPrev := Lib.hid hprev
          have HCs := Lib.hid hcs
          have HG := Lib.hid hg
          clear hfd hnm hvd hfs hfn hnv hcs hsi hnem hmem hp hprev hg
          by_cases hk0 : k = 0
          · subst hk0
            clear HPrev
            go_wp2_with (first
              | (go_at_call 30; refine HFd.out.mono ?_; rintro e W7 ⟨rfl, hb7⟩; have HK7 := Lib.hid (HK.out.below hb7); have HOw7 := Lib.hid (own_mods HOw.out (Below.mods_ hb7 (fun _ => False)) (fun _ _ => id)); clear hb7)
              | (go_at_call 31; refine (HNm.out _ HK7.out.hr).mono ?_; rintro e w' ⟨rfl, rfl⟩)
              | (go_at_call 16; refine (HVd.out _).mono ?_; rintro e W8 ⟨rfl, hb8⟩; have HK8 := Lib.hid (HK7.out.below hb8); have HOw8 := Lib.hid (own_mods HOw7.out (Below.mods_ hb8 (fun _ => False)) (fun _ _ => id)); clear hb8))
            go_roundw
            case rel => exact ⟨1, by omega, by go_num, HK8.out, HOw8.out⟩
            case measure => simp [intOf]; omega
          · obtain ⟨k, rfl⟩ : ∃ q, k = q + 1 := ⟨k - 1, by omega⟩
            obtain ⟨nm', i', hq, hbl⟩ := HPrev.out (by omega)
            rw [Nat.add_sub_cancel] at hq
            have y0 : wr.cell? ⟨g, k, none⟩ = some (.string nm') := by
              have := HCs.out k _ (by rw [List.getElem?_map, hq]; rfl)
              rwa [Go.WideShapes.add_plain, Nat.zero_add] at this
            have hbl2 : Op.bytesLess nm'.toList nm.toList = true := hbl
            have hw1 : IntKind.i64.wrap (((k : Int) + 1) - 1) = (k : Int) := by rw [IntWalk.i64_in _ (by omega)]; omega
            have hw2 : IntKind.i64.wrap ((k : Int) + 1 + 1) = (k : Int) + 1 + 1 := by rw [IntWalk.i64_in _ (by omega)]
            have hd : decide ((0 : Int) < (k : Int) + 1) = true := by simp
            clear HPrev hq hbl hk0
            go_wp2_with (first
              | (go_at_call 30; refine HFd.out.mono ?_; rintro e W7 ⟨rfl, hb7⟩; have HK7 := Lib.hid (HK.out.below hb7); have HOw7 := Lib.hid (own_mods HOw.out (Below.mods_ hb7 (fun _ => False)) (fun _ _ => id)); have y1 : W7.cell? ⟨g, k, none⟩ = some (.string nm') := (hb7.cell (p := ⟨g, k, none⟩) HG.out.lt).trans y0; clear hb7)
              | (go_at_call 31; refine (HNm.out _ HK7.out.hr).mono ?_; rintro e w' ⟨rfl, rfl⟩)
              | (go_at_call 16; refine (HVd.out _).mono ?_; rintro e W8 ⟨rfl, hb8⟩; have HK8 := Lib.hid (HK7.out.below hb8); have HOw8 := Lib.hid (own_mods HOw7.out (Below.mods_ hb8 (fun _ => False)) (fun _ _ => id)); clear hb8))
            go_roundw
            case rel => exact ⟨k + 2, by omega, by go_num, HK8.out, HOw8.out⟩
            case measure => simp [intOf]; omega
        · go_wp2_with fail
          go_loopw [112] (fun i wx => ∃ (k : Nat) (xs : List Value), k ≤ m ∧ i = .int .i64 k ∧ RK w wx rb gt gn R slots seats v ∧ wx.ownsRow B 9 1 (.slice A6 m c6) m xs) (fun i _ => m - (intOf i).toNat)
          case atStart => exact ⟨0, _, by omega, rfl, HK.out, HOw.out⟩
          case round =>
            clear HK HOw
            obtain ⟨k, xs, hk, rfl, hK, hown⟩ := hrel
            have HK := Lib.hid hK
            have HOw := Lib.hid hown
            clear hK hown
            by_cases hlt3 : k < m
            · obtain ⟨g, cur, hA6, hgB, hg, hc1, hc2, hc3, hc4⟩ := own_ob HOw.out (by omega)
              subst hA6
              obtain ⟨y, hy⟩ : ∃ y, cur[k]? = some y := ⟨_, List.getElem?_eq_getElem (by omega)⟩
              have x0 : wr.cell? ⟨g, k, none⟩ = some y := (hg.cell k).trans hy
              have z0 := hg.frozen
              have l0 := hg.lt
              have HG := Lib.hid hg
              have HC3 := Lib.hid hc3
              have d0 : (0 : Int) ≤ k := by omega
              clear hg hy hc3 hc4
              go_wp2_with fail
              have hm : Mods (fun q => q = g) wr (wr.setCell ⟨g, k, none⟩ (.string ⟨#[]⟩)) := (Mods.refl (fun q => q = g) wr).setCell (⟨g, k, none⟩ : Addr) (.inl rfl) _
              have hr8 := HK.out.hr.mods hm (by omega) (by have := HK.out.hr.l1; omega) (by have := HK.out.hr.l2; omega) (fun q hq => by have := HVo.out q hq; omega)
              have HK8 : Hid (RK w (wr.setCell ⟨g, k, none⟩ (.string ⟨#[]⟩)) rb gt gn R slots seats v) := Lib.hid ⟨hr8, Below.mods HK.out.hb hm (fun q hq => by omega) HK.out.hb.size, HK.out.b1, HK.out.b2, HK.out.b3⟩
              have HOw8 := Lib.hid (ob_own (n := m) (c := c6) (sz := 1) hgB (HG.out.set k (.string ⟨#[]⟩)) hc1 hc2 (by rw [List.length_set]; exact HC3.out) rfl)
              clear hm hr8 x0 z0 l0 HG
              go_roundw
              case rel => exact ⟨k + 1, _, by omega, by go_num, HK8.out, HOw8.out⟩
              case measure => simp [intOf]; omega
            · have hs := rosSorted wr rb gt gn R slots seats v HK.out.hr
              have hcn := fun W hW => rosCount W rb gt gn R slots seats v hW
              have hinv := HK.out.hr.inv
              rw [HM.out] at hs hcn
              have HS := Lib.hid hs
              have HCn := Lib.hid hcn
              have HInv := Lib.hid hinv
              clear hs hcn hinv
              go_upto_region 31 with (go_at_call 42; refine HS.out.mono ?_; rintro e W9 ⟨v9, rfl, hown9, hb9⟩; obtain ⟨A9, c9, hv9, -, -, -⟩ := own_shape hown9; subst hv9)
              have hK9 := HK.out.below hb9
              have HK9 := Lib.hid hK9
              have HOw9 := Lib.hid hown9
              clear hK9 hown9 hb9 HK HS HOw
              by_cases hm0 : m = 0
              · subst hm0
                go_wp2_with (go_at_call 28; refine (HCn.out _ HK9.out.hr).mono ?_; rintro e w' ⟨rfl, rfl⟩)
                go_ret
                exact ⟨rfl, HK9.out.hb⟩
              · obtain ⟨p, hp⟩ : ∃ p, seats[0]? = some p := ⟨_, List.getElem?_eq_getElem (by rw [HM.out]; omega)⟩
                have hne := (HInv.out.sl p (List.mem_of_getElem? hp)).2
                obtain ⟨g, cur, hA9, -, hg, -, -, -, -⟩ := own_ob HOw9.out (by omega)
                subst hA9
                have x0 : W9.cell? ⟨g, 0, none⟩ = some (.string p.1) := by
                  have := HOw9.out.cells (g := g) rfl 0 _ (by rw [List.getElem?_map, hp]; rfl)
                  rwa [Go.WideShapes.add_plain, Nat.zero_add] at this
                have e5 : p.1.toList.isEmpty = false := ne_isE' hne
                have e6 : ¬ p.1.toList = [] := by simpa using e5
                have e7 : (p.1.toList == []) = false := by simpa using e6
                have hmp : 0 < m := by omega
                generalize p.1 = s at *
                clear hp hne hg
                go_wp2_with (go_at_call 28; refine (HCn.out _ HK9.out.hr).mono ?_; rintro e w' ⟨rfl, rfl⟩)
                go_ret
                exact ⟨rfl, HK9.out.hb⟩

theorem rosterSorts_walk (w : World) (room : Int) (A : Option Addr) (n c : Nat) (ops : List ROp) (hr : Rd w A n 3 (ops.flatMap roCells)) (hl : ops.length = n) :
    Calls Try.prog 10 #[.int .i64 room, .slice A n c] w fun e w' => e = .returned (.bool true) ∧ Below w.heap.size w w' := by
  by_cases h : fewR ops = false ∨ room < 1 ∨ 100 < room
  · exact rosterSorts_out w room A n c ops hr hl h
  · obtain ⟨R, rfl⟩ : ∃ R : Nat, room = R := ⟨room.toNat, by omega⟩
    exact rosterSorts_in w R (by omega) (by omega) A n c ops hr hl (by cases hb : fewR ops with | true => rfl | false => exact absurd (Or.inl hb) h)

end Go.Proofs.Ytjhlaifflhjafaa
