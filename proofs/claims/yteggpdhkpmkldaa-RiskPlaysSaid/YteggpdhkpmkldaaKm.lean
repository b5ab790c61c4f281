import Derived.Test.YteggpdhkpmkldaaKl
import Derived.Deep.CutBlock
import Derived.Lib.QuietBelow
namespace Go.Proofs.Yteggpdhkpmkldaa
open Go.RowKit

theorem far_mods (w : World) (ug j i : Nat) (v : Value) : Mods (fun k => k = ug) w ((w.drewN j).setCell ⟨ug, i, none⟩ v) := ((Mods.refl (fun k => k = ug) w).drewN j).setCell (⟨ug, i, none⟩ : Addr) (Or.inl rfl) v
theorem RSt.setFar {B : Nat} {w wr : World} {b gp gh cp : Nat} {ls : List Int} {ps : List Purse} {hs : List Hold} (h : RSt B w wr b gp gh cp ls ps hs) (ug j i : Nat) (v : Value) (h0 : B ≤ ug) (h1 : b ≠ ug) (h2 : gp ≠ ug) (h3 : gh ≠ ug) : RSt B w ((wr.drewN j).setCell ⟨ug, i, none⟩ v) b gp gh cp ls ps hs :=
  h.mods (far_mods wr ug j i v) (fun k hk => by omega) h1 h2 h3
theorem Ob.setFar {w : World} {b : Nat} {t : TypeId} {cs : List Value} (h : Ob w b t cs) (ug j i : Nat) (v : Value) (h1 : b ≠ ug) : Ob ((w.drewN j).setCell ⟨ug, i, none⟩ v) b t cs := h.mods (far_mods w ug j i v) h1

theorem Calls.regrown_mods {P : Program} {f : FuncId} {args : Array Value} {w : World} {p : Regrown} {v : Value}
    (h : Calls P f args (Sort.grow (redrawn w p.d) p.os) fun e w' => e = .returned v ∧ Mods (fun _ => False) (Sort.grow (redrawn w p.d) p.os) w') : Calls P f args (Sort.grow (redrawn w p.d) p.os) fun e w'' => e = .returned v ∧ ∃ p : Regrown, w'' = Sort.grow (redrawn w p.d) p.os :=
  Calls.regrown_of (h.mono fun _ _ ⟨he, hm⟩ => ⟨he, ⟨hm.os, hm.tape, hm.output, hm.size, fun k hk => hm.block k hk id⟩⟩)
theorem mods_regrown (w : World) (p : Regrown) : Mods (fun _ => False) w (Sort.grow (redrawn w p.d) p.os) := Below.mods_ (below_regrown w p.d p.os) _

set_option maxHeartbeats 800000 in
set_option maxRecDepth 100000 in
theorem riskBounds_out (w : World) (A A2 : Option Addr) (n c n2 c2 : Nat) (s : Int) (h9 : n ≤ 9223372036854775807) (h92 : n2 ≤ 9223372036854775807) (h : 16 < n ∨ 100 < n2 ∨ n < 1 ∨ s < 1 ∨ 64 < s) :
    Calls Try.prog 9 #[.slice A n c, .int .i64 s, .slice A2 n2 c2] w fun e w' => e = .returned (.bool true) ∧ Below w.heap.size w w' := by
  by_cases h1 : 16 < n
  · clear h
    go_enter Try.func9, Try.ntmps9
    go_wp2_with (go_at_call 23; refine (awake17 _).mono ?_; rintro e w' ⟨rfl, hbw⟩)
    go_ret
    exact ⟨rfl, hbw⟩
  by_cases h2 : 100 < n2
  · clear h
    go_enter Try.func9, Try.ntmps9
    go_wp2_with (go_at_call 23; refine (awake17 _).mono ?_; rintro e w' ⟨rfl, hbw⟩)
    go_ret
    exact ⟨rfl, hbw⟩
  have h3 : n < 1 ∨ 16 < n ∨ s < 1 ∨ 64 < s := by omega
  clear h
  go_enter Try.func9, Try.ntmps9
  go_wp2_with (first | (go_at_call 23; refine (awake17 _).mono ?_; rintro e w' ⟨rfl, hbw⟩) | (go_at_call 24; refine (kNew_bad _ _ _ _ _ h9 h3).mono ?_; rintro e w' ⟨rfl, rfl⟩))
  go_ret
  exact ⟨rfl, hbw⟩

set_option maxHeartbeats 4000000 in
set_option maxRecDepth 100000 in
theorem riskBounds_in (w : World) (A A2 : Option Addr) (n c n2 c2 s : Nat) (l : List Int) (ops : List Op4) (hr : Rd w A n 1 (l.map (Value.int .i64))) (hl : l.length = n) (hr2 : Rd w A2 n2 4 (ops.flatMap opCells)) (hl2 : ops.length = n2) (h1 : n ≤ 16) (h2 : n2 ≤ 100) (h3 : 1 ≤ n) (h4 : 1 ≤ s) (h5 : s ≤ 64) :
    Calls Try.prog 9 #[.slice A n c, .int .i64 s, .slice A2 n2 c2] w fun e w' => e = .returned (.bool true) ∧ Below w.heap.size w w' := by
  have HR := Lib.hid hr
  have HL := Lib.hid hl
  have HR2 := Lib.hid hr2
  have HL2 := Lib.hid hl2
  clear hr hl hr2 hl2
  obtain ⟨i0, hi0, hz0, hz1, hz2⟩ := info_parts info3
  have hmk : ∀ W : World, (Instr.makeSlice 54 (.int .i64 (n : Int)) (.int .i64 (n : Int))).run Try.prog W = .ok (.slice (some ⟨W.heap.size, 0, none⟩) n n) (W.alloc (.cells (List.replicate n (.int .i64 0)).toArray 3)) := fun W => by
    have hr := run_make (P := Try.prog) W 54 3 i0 (.int .i64 0) Try.underlying54 hi0 hz0 .i64 .i64 n n (by omega) (by omega) (by rw [hz2]; omega) (by omega)
    simp only [Int.toNat_natCast] at hr
    rw [hr, hz1, Nat.mul_one, ← madeCells_one]
    rfl
  clear hi0 hz0 hz1 hz2
  obtain ⟨row, hrow⟩ : ∃ row, row = (List.replicate n (Value.int .i64 0)).toArray := ⟨_, rfl⟩
  rw [← hrow] at hmk
  have Hrow := Lib.hid hrow
  have Hmk := Lib.hid hmk
  clear hrow hmk
  go_enter Try.func9, Try.ntmps9
  go_wp2_with fail
  refine (awake17 _).mono ?_
  rintro e w1 ⟨rfl, hb1⟩
  have Hb1 := Lib.hid hb1
  clear hb1
  go_wp2_with fail
  refine (kNew_in w1 A n c s l (HR.out.below Hb1.out) HL.out h3 h1 h4 h5).mono ?_
  rintro e w2 ⟨hb2, ⟨hf, rfl⟩ | ⟨hall, b, gp, gh, cp, rfl, hB, l1, l2, l3⟩⟩
  · go_wp2_with fail
    go_ret
    exact ⟨rfl, Hb1.out.trans (hb2.mono Hb1.out.size)⟩
  have hS : RSt w1.heap.size w1 w2 b gp gh cp l (l.map fun x => (x, 0, 0)) (List.replicate s hold0) := ⟨hB, BInv.start hall, hb2, ⟨l1, l2, l3⟩, hb2.size⟩
  have HS0 := Lib.hid hS
  clear hS hB hb2 hall
  go_wp2_with fail
  go_loopw [43] (fun i wr => ∃ (k : Nat) (ps : List Purse) (hs : List Hold), k ≤ n2 ∧ i = .int .i64 k ∧ hs.length = s ∧ RSt w1.heap.size w1 wr b gp gh cp l ps hs) (fun i _ => n2 - (intOf i).toNat)
  case atStart => exact ⟨0, _, _, by omega, rfl, by simp, HS0.out⟩
  case round =>
    clear HS0
    obtain ⟨ko, ps, hs, hko, rfl, hsl, hS⟩ := hrel
    have Hsl := Lib.hid hsl
    clear hsl
    by_cases hlt : ko < n2
    · obtain ⟨x, hx⟩ : ∃ x, ops[ko]? = some x := ⟨_, List.getElem?_eq_getElem (by have := HL2.out; omega)⟩
      obtain ⟨g, off, hA, hbl, hcell⟩ := HR2.out.2.2 (by omega)
      subst hA
      have hbB := Hb1.out.trans (hS.hb.mono Hb1.out.size)
      obtain ⟨o1, o2, o3, o4⟩ := x
      have a0 : _ = some (Value.int .i64 o1) := (hbB.cell (p := ⟨g, off + ko * 4, none⟩) hbl).trans (hcell _ _ (flat_at opCells 4 (fun _ => rfl) ops ko 0 _ hx (by omega)))
      have a1 : _ = some (Value.int .i64 o2) := (hbB.cell (p := ⟨g, off + ko * 4 + 1, none⟩) hbl).trans (hcell _ _ (flat_at opCells 4 (fun _ => rfl) ops ko 1 _ hx (by omega)))
      have a2 : _ = some (Value.int .i64 o3) := (hbB.cell (p := ⟨g, off + ko * 4 + 2, none⟩) hbl).trans (hcell _ _ (flat_at opCells 4 (fun _ => rfl) ops ko 2 _ hx (by omega)))
      have a3 : _ = some (Value.int .i64 o4) := (hbB.cell (p := ⟨g, off + ko * 4 + 3, none⟩) hbl).trans (hcell _ _ (flat_at opCells 4 (fun _ => rfl) ops ko 3 _ hx (by omega)))
      obtain ⟨q1, q2, q3⟩ := hS.lt
      obtain ⟨r1, r2, r3⟩ := hS.h1
      have r4 := hS.hs'
      have HS := Lib.hid hS
      clear hS hbB hcell hx
      go_upto_region 11 with (fail)
      have hOx := Ob.new wr 57 [.int .i64 o1, .int .i64 o2, .int .i64 o3, .int .i64 o4]
      have hSx := HS.out.alloc (.cells #[.int .i64 o1, .int .i64 o2, .int .i64 o3, .int .i64 o4] 57)
      clear a0 a1 a2 a3 HS
      generalize hpo : wr.heap.size = po at *
      refine cutW (fun W => RSt w1.heap.size w1 W b gp gh cp l ps hs ∧ Ob W po 57 [.int .i64 o1, .int .i64 o2, .int .i64 o3, .int .i64 o4]) ⟨hSx, hOx⟩ ?_
      clear hSx hOx hpo
      rintro W ⟨hS, hO⟩
      have hpl := hO.lt
      have hO0 : Ob (W.alloc (.cells row 3)) W.heap.size 3 ((List.replicate n (0 : Int)).map (Value.int .i64)) := by
        rw [Hrow.out, List.map_replicate]; exact Ob.new W 3 _
      have HO0 := Lib.hid hO0
      have HS1 := Lib.hid (hS.alloc (.cells row 3))
      have HO1 := Lib.hid (hO.alloc (.cells row 3))
      have hmk := Hmk.out
      clear hO0 hS hO
      go_wp2_with fail
      clear hmk
      generalize W.alloc (.cells row 3) = wy at *
      generalize W.heap.size = ug at *
      go_loopw [52] (fun i wx => ∃ (k : Nat) (us : List Int), k ≤ n ∧ i = .int .i64 k ∧ us.length = n ∧ Ob wx ug 3 (us.map (Value.int .i64)) ∧ (∀ i : Nat, i < k → us[i]? = some (bUsed ps i)) ∧ RSt w1.heap.size w1 wx b gp gh cp l ps hs ∧ Ob wx po 57 [.int .i64 o1, .int .i64 o2, .int .i64 o3, .int .i64 o4]) (fun i _ => n - (intOf i).toNat)
      case atStart => exact ⟨0, _, by omega, rfl, by simp, HO0.out, fun i hi => by omega, HS1.out, HO1.out⟩
      case round =>
        clear HO0 HS1 HO1
        obtain ⟨k, us, hk, rfl, hul, hO, hus, hS, hOp⟩ := hrel
        have HS := Lib.hid hS
        have HO := Lib.hid hO
        have HOp := Lib.hid hOp
        have Hus := Lib.hid hus
        have Hul := Lib.hid hul
        clear hS hus hul
        by_cases hlt : k < n
        · obtain ⟨u, hu⟩ : ∃ u, us[k]? = some u := ⟨_, List.getElem?_eq_getElem (by have := Hul.out; omega)⟩
          have hcu : _ = some (Value.int .i64 u) := (hO.cell k).trans (by rw [List.getElem?_map, hu]; rfl)
          have hzu := hO.frozen k
          clear hO hu hOp
          go_wp2_with (go_at_call 28; refine (HS.out.used k 0).mono ?_; rintro e w' ⟨rfl, j, rfl⟩)
          go_roundw
          case rel =>
            refine ⟨k + 1, us.set k (bUsed ps k), by omega, by go_num, by rw [List.length_set]; exact Hul.out, ?_, ?_, HS.out.setFar ug j k _ (by omega) (by omega) (by omega) (by omega), Ob.setFar HOp.out ug j k _ (by omega)⟩
            · rw [List.map_set]; exact (HO.out.drewN j).set k _
            · intro i hi
              by_cases hik : i = k
              · subst hik; exact List.getElem?_set_self (by rw [Hul.out]; exact hlt)
              · rw [List.getElem?_set_ne (fun e => hik e.symm)]; exact Hus.out i (by omega)
          case measure => simp [intOf]; omega
        · have hkn : k = n := by omega
          have Hus2 : Hid (∀ i : Nat, i < n → us[i]? = some (bUsed ps i)) := by rw [← hkn]; exact Hus
          clear Hus hkn hk
          have hoc := hOp.cell
          clear hO hOp
          obtain ⟨c23, hc23⟩ : ∃ c : Bool, ((o1 == 2) || (o1 == 3)) = c := ⟨_, rfl⟩
          have Hc23 := Lib.hid hc23
          clear hc23
          go_upto_region 18 with (fail)
          go_cut [71] (fun v wx => v = .bool c23 ∧ wx = wr)
          case first =>
            have hc23 := Hc23.out
            by_cases h2 : o1 = 2
            · subst h2
              simp at hc23
              subst hc23
              go_wp2_with fail
              go_meet
              exact ⟨rfl, rfl⟩
            · have hb2 : (o1 == 2) = false := by simpa using h2
              rw [hb2, Bool.false_or] at hc23
              clear h2
              go_wp2_with fail
              go_meet
              exact ⟨rfl, rfl⟩
          case rest =>
            obtain ⟨rfl, rfl⟩ := hcut
            go_upto_if 71 with (fail)
            go_cut [13, 71] (fun v _ wx => v = .int .i64 (whoB hs (o1, o2, o3, o4)) ∧ RSt w1.heap.size w1 wx b gp gh cp l ps hs ∧ Ob wx po 57 [.int .i64 o1, .int .i64 o2, .int .i64 o3, .int .i64 o4] ∧ Ob wx ug 3 (us.map (Value.int .i64)))
            case first =>
              cases c23 with
              | true =>
                have hw : whoB hs (o1, o2, o3, o4) = (bHeld hs o3).2.1 := if_pos (by simpa using Hc23.out)
                have Hw := Lib.hid hw
                clear hw
                go_wp2_with fail
                refine (kHeld_any _ o3 HS.out.hB).mono ?_
                rintro e w' ⟨rfl, hm⟩
                go_wp2_with fail
                go_meet
                exact ⟨by rw [Hw.out], HS.out.mods hm (fun _ => False.elim) id id id, HOp.out.mods hm id, HO.out.mods hm id⟩
              | false =>
                have hw : whoB hs (o1, o2, o3, o4) = o2 := if_neg (by simpa using Hc23.out)
                have Hw := Lib.hid hw
                clear hw
                go_wp2_with fail
                go_meet
                exact ⟨by rw [Hw.out], HS.out, HOp.out, HO.out⟩
            case rest =>
              obtain ⟨rfl, hS, hOp, hO⟩ := hcut
              clear HS HO HOp hoc Hc23
              have hoc := hOp.cell
              have HS := Lib.hid hS
              have HO := Lib.hid hO
              have HOp := Lib.hid hOp
              clear hS hO hOp
              go_upto_block 4 with (fail)
              go_cut [] (fun wx => RSt w1.heap.size w1 wx b gp gh cp l (bStep ps hs (o1, o2, o3, o4)).2.1 (bStep ps hs (o1, o2, o3, o4)).2.2 ∧ Ob wx ug 3 (us.map (Value.int .i64)))
              case first =>
                by_cases k1 : o1 = 1
                · subst k1
                  have E := Lib.hid (show bStep ps hs (1, o2, o3, o4) = bRes ps hs o2 o3 o4 from if_pos rfl)
                  go_wp2_with fail
                  refine (kReserve_any _ b gp gh cp l ps hs _ _ _ HS.out.hB HS.out.hI).mono ?_
                  rintro e w4 ⟨rfl, q1, q2, q3⟩
                  have h4 := HS.out.turned q1 q2 q3
                  have hO4 := HO.out.mods q3 (fun h => by omega)
                  clear q1 q2 q3
                  go_wp2_with fail
                  go_meet
                  rw [E.out]
                  exact ⟨h4, hO4⟩
                have k1' : (o1 == 1) = false := by simpa using k1
                by_cases k2 : o1 = 2
                · subst k2
                  have E := Lib.hid (show bStep ps hs (2, o2, o3, o4) = bRsz ps hs o3 o4 from (if_neg (by simp)).trans (if_pos rfl))
                  clear k1
                  go_wp2_with fail
                  refine (kResize_any _ b gp gh cp l ps hs _ _ HS.out.hB HS.out.hI).mono ?_
                  rintro e w4 ⟨rfl, q1, q2, q3⟩
                  have h4 := HS.out.turned q1 q2 q3
                  have hO4 := HO.out.mods q3 (fun h => by omega)
                  clear q1 q2 q3
                  go_wp2_with fail
                  go_meet
                  rw [E.out]
                  exact ⟨h4, hO4⟩
                have k2' : (o1 == 2) = false := by simpa using k2
                by_cases k3 : o1 = 3
                · subst k3
                  have E := Lib.hid (show bStep ps hs (3, o2, o3, o4) = bStl ps hs o3 o4 from (if_neg (by simp)).trans ((if_neg (by simp)).trans (if_pos rfl)))
                  clear k1 k2
                  go_wp2_with fail
                  refine (kSettle_any _ b gp gh cp l ps hs _ _ HS.out.hB HS.out.hI).mono ?_
                  rintro e w4 ⟨rfl, q1, q2, q3⟩
                  have h4 := HS.out.turned q1 q2 q3
                  have hO4 := HO.out.mods q3 (fun h => by omega)
                  clear q1 q2 q3
                  go_wp2_with fail
                  go_meet
                  rw [E.out]
                  exact ⟨h4, hO4⟩
                have k3' : (o1 == 3) = false := by simpa using k3
                by_cases k4 : o1 = 4
                · subst k4
                  have E := Lib.hid (show bStep ps hs (4, o2, o3, o4) = bUnd ps hs o2 o4 from (if_neg (by simp)).trans ((if_neg (by simp)).trans ((if_neg (by simp)).trans (if_pos rfl))))
                  clear k1 k2 k3
                  go_wp2_with fail
                  refine (kUndo_any _ b gp gh cp l ps hs _ _ HS.out.hB HS.out.hI).mono ?_
                  rintro e w4 ⟨rfl, q1, q2, q3⟩
                  have h4 := HS.out.turned q1 q2 q3
                  have hO4 := HO.out.mods q3 (fun h => by omega)
                  clear q1 q2 q3
                  go_wp2_with fail
                  go_meet
                  rw [E.out]
                  exact ⟨h4, hO4⟩
                have k4' : (o1 == 4) = false := by simpa using k4
                have E := Lib.hid (show bStep ps hs (o1, o2, o3, o4) = (0, ps, hs) from (if_neg k1).trans ((if_neg k2).trans ((if_neg k3).trans (if_neg k4))))
                clear k1 k2 k3 k4
                go_wp2_with fail
                go_meet
                rw [E.out]
                exact ⟨HS.out, HO.out⟩
              case rest =>
                obtain ⟨hS, hO⟩ := hcut
                have hoth := fun (i : Int) (h : i ≠ whoB hs (o1, o2, o3, o4)) => step_other HS.out.hI (o1, o2, o3, o4) i h
                have hlen := step_len (ps := ps) (hs := hs) (o1, o2, o3, o4)
                rw [Hsl.out] at hlen
                clear HS HO HOp hoc
                generalize bStep ps hs (o1, o2, o3, o4) = res at *
                obtain ⟨rr, ps', hs'⟩ := res
                generalize whoB hs (o1, o2, o3, o4) = wh at *
                simp only at hS hO hoth hlen
                have HS := Lib.hid hS
                have HO := Lib.hid hO
                have Hoth := Lib.hid hoth
                have Hlen := Lib.hid hlen
                clear hS hO hoth hlen
                go_wp2_with fail
                go_loopw [118] (fun i wx => ∃ a : Nat, a ≤ n ∧ i = .int .i64 a ∧ RSt w1.heap.size w1 wx b gp gh cp l ps' hs' ∧ Ob wx ug 3 (us.map (Value.int .i64))) (fun i _ => n - (intOf i).toNat)
                case atStart => exact ⟨0, by omega, rfl, HS.out, HO.out⟩
                case round =>
                  clear HS HO
                  obtain ⟨a, ha, rfl, hS, hO⟩ := hrel
                  by_cases hlt : a < n
                  · obtain ⟨x, hx⟩ : ∃ x, l[a]? = some x := ⟨_, List.getElem?_eq_getElem (by have := HL.out; omega)⟩
                    obtain ⟨g2, off2, hA, hbl2, hcell⟩ := HR.out.2.2 (by omega)
                    subst hA
                    have a0 := ((Hb1.out.trans (hS.hb.mono Hb1.out.size)).cell (p := ⟨g2, off2 + a, none⟩) hbl2).trans (hcell a (.int .i64 x) (by rw [List.getElem?_map, hx]; rfl))
                    obtain ⟨v1, v2⟩ := used_eq hS.hI (a := a) (by rw [hS.hI.len, HL.out]; exact hlt)
                    obtain ⟨v3, v4, v5, v6⟩ := used_lim hS.hI hx
                    have hus : us[a]? = some (bUsed ps a) := Hus2.out a hlt
                    have Hus := Lib.hid hus
                    have V1 := Lib.hid v1
                    have V4 := Lib.hid v4
                    have HS := Lib.hid hS
                    have HO := Lib.hid hO
                    clear hS hO hx hcell hus v1 v4
                    generalize hu : bUsed ps' a = u at *
                    have Hu := Lib.hid hu
                    clear hu
                    go_wp2_with (go_at_call 35; refine (kRealised_any _ a HS.out.hB).mono ?_; rintro e w' ⟨rfl, j, rfl⟩)
                    clear a0
                    generalize hR : bReal ps' a = R at *
                    have HRe := Lib.hid hR
                    clear hR
                    go_loopw [16, 127] (fun v i wx => ∃ (k2 : Nat) (z : Int), k2 ≤ s ∧ i = .int .i64 k2 ∧ v = .int .i64 z ∧ z = R + sumTo hs' a k2 ∧ RSt w1.heap.size w1 wx b gp gh cp l ps' hs' ∧ Ob wx ug 3 (us.map (Value.int .i64))) (fun _ i _ => s - (intOf i).toNat)
                    case atStart => exact ⟨0, R, by omega, rfl, rfl, by simp [sumTo, sumH], HS.out.drewN _, HO.out.drewN _⟩
                    case round =>
                      clear HS HO
                      obtain ⟨k2, z, hk2, rfl, rfl, hz, hS, hO⟩ := hrel
                      have HS := Lib.hid hS
                      have HO := Lib.hid hO
                      by_cases hlt2 : k2 < s
                      · obtain ⟨y, hy⟩ : ∃ y, hs'[k2]? = some y := ⟨_, List.getElem?_eq_getElem (by have := Hlen.out; omega)⟩
                        have hst := sumTo_succ (hs := hs') (a : Int) hy
                        have hb1 := sumTo_le hS.hI (a : Int) (k2 + 1)
                        have hb0 := sumTo_le hS.hI (a : Int) k2
                        have hhe : bHeld hs' k2 = y := by unfold bHeld; rw [if_pos (inB_lt (by have := Hlen.out; omega)), hAt_of hy]
                        have hcon := kHeld_any _ (k2 : Int) hS.hB
                        rw [hhe] at hcon
                        have Hcon := Lib.hid hcon
                        obtain ⟨t, q, m⟩ := y
                        have Hst := Lib.hid hst
                        have Hz := Lib.hid hz
                        have hV := V1.out
                        clear hS hO hy hhe hcon
                        cases t with
                        | false =>
                          have hw : wt (a : Int) (false, q, m) = 0 := by simp [wt]
                          have Hw := Lib.hid hw
                          clear hst hb1 hb0 hw hz hV
                          go_wp2_with (go_at_call 33; refine Hcon.out.mono ?_; rintro e w' ⟨rfl, hm⟩)
                          go_roundw
                          case rel => exact ⟨k2 + 1, z, by omega, by go_num, rfl, by rw [Hst.out, Hw.out, Hz.out]; omega, HS.out.mods hm (fun _ => False.elim) id id id, HO.out.mods hm id⟩
                          case measure => simp [intOf]; omega
                        | true =>
                          by_cases hqa : q = (a : Int)
                          · subst hqa
                            have hw : wt (a : Int) (true, (a : Int), m) = m := by simp [wt]
                            rw [hw] at hst
                            have c1 : 0 ≤ z := by omega
                            have c2 : 0 ≤ z + m := by omega
                            have c3 : z + m ≤ 4611686018427387904 := by omega
                            have hwr : IntKind.i64.wrap (z + m) = z + m := by rw [IntWalk.i64_in _ (by omega)]
                            have Hst2 := Lib.hid hst
                            clear hst hb1 hb0 hw hz hV Hst
                            go_wp2_with (go_at_call 33; refine Hcon.out.mono ?_; rintro e w' ⟨rfl, hm⟩)
                            go_roundw
                            case rel => exact ⟨k2 + 1, z + m, by omega, by go_num, rfl, by rw [Hst2.out, Hz.out]; omega, HS.out.mods hm (fun _ => False.elim) id id id, HO.out.mods hm id⟩
                            case measure => simp [intOf]; omega
                          · have hw : wt (a : Int) (true, q, m) = 0 := by simp [wt, hqa]
                            have Hw := Lib.hid hw
                            have hqb : (q == (a : Int)) = false := by simpa using hqa
                            clear hst hb1 hb0 hw hz hV hqa
                            go_wp2_with (go_at_call 33; refine Hcon.out.mono ?_; rintro e w' ⟨rfl, hm⟩)
                            go_roundw
                            case rel => exact ⟨k2 + 1, z, by omega, by go_num, rfl, by rw [Hst.out, Hw.out, Hz.out]; omega, HS.out.mods hm (fun _ => False.elim) id id id, HO.out.mods hm id⟩
                            case measure => simp [intOf]; omega
                      · have hzu : z = u := by rw [hz, V1.out, sumTo_all (a : Int) (by have := Hlen.out; omega)]
                        subst hzu
                        clear hz
                        obtain ⟨cu, hcu⟩ : ∃ cu, us[a]? = some cu := ⟨_, Hus.out⟩
                        have hcu' : cu = bUsed ps a := by have := Hus.out; rw [hcu] at this; injection this
                        have fu : wr.cell? ⟨ug, a, none⟩ = some (.int .i64 cu) := (HO.out.cell a).trans (by rw [List.getElem?_map, hcu]; rfl)
                        have hcalls : ∀ p : Regrown, (Calls Try.prog 28 #[.pointer (some ⟨b, 0, none⟩), .int .i64 a] (Sort.grow (redrawn wr p.d) p.os) fun e w' => e = .returned (.int .i64 z) ∧ ∃ q : Regrown, w' = Sort.grow (redrawn wr q.d) q.os) ∧ Calls Try.prog 36 #[.pointer (some ⟨b, 0, none⟩), .int .i64 a] (Sort.grow (redrawn wr p.d) p.os) fun e w' => e = .returned (.int .i64 (x - z)) ∧ ∃ q : Regrown, w' = Sort.grow (redrawn wr q.d) q.os := fun p => by
                          have hS5 := hS.mods (mods_regrown wr p) (fun _ => False.elim) id id id
                          have h1 := hS5.used (a : Int) 0
                          have h2 := kLeft_anyB _ (a : Int) hS5.hB hS5.hI
                          rw [Hu.out] at h1
                          rw [V4.out] at h2
                          exact ⟨Calls.regrown_mods (h1.mono fun e w' ⟨he, j, hw⟩ => ⟨he, by rw [hw]; exact (Mods.refl _ _).drewN j⟩), Calls.regrown_mods h2⟩
                        have hcu2 : ∀ p : Regrown, (Sort.grow (redrawn wr p.d) p.os).cell? ⟨ug, a, none⟩ = some (.int .i64 cu) := fun p => cell_regrown fu p.d p.os
                        have Hcalls := Lib.hid hcalls
                        have hz0 : 0 ≤ z := by have h1 := sumTo_le hS.hI (a : Int) s; have h2 := V1.out; omega
                        have hw1 : IntKind.i64.wrap (x - z) = x - z := by rw [IntWalk.i64_in _ (by omega)]
                        have Hcu := Lib.hid hcu'
                        have hd1 : decide (z < 0) = false := by simpa using hz0
                        have hd2 : decide (x < z) = false := by simpa using v3
                        clear hS hO hcu hcu' hcalls fu
                        go_upto_region 40 with (fail)
                        by_cases hwh : (a : Int) = wh
                        · have hwb : ((a : Int) != wh) = false := by simpa using hwh
                          clear hwh
                          refine wp_region_quiet_below (by kernel_rfl) (by kernel_rfl) ?_
                          repeat (go_big_quiet_step (first | (go_at_call 28; exact (Hcalls.out _).1) | (go_at_call 36; exact (Hcalls.out _).2)))
                          refine wpQuiet_nil ?_
                          intro W2 hW2
                          have hm2 : Mods (fun _ => False) wr W2 := by obtain ⟨p, rfl⟩ := hW2; exact mods_regrown wr p
                          clear hW2
                          go_wp2_with fail
                          go_roundw
                          case rel => exact ⟨a + 1, by omega, by go_num, HS.out.mods hm2 (fun _ => False.elim) id id id, HO.out.mods hm2 id⟩
                          case measure => simp [intOf]; omega
                        · have hwb : ((a : Int) != wh) = true := by simpa using hwh
                          have hee := Hoth.out a hwh
                          simp only [Hu.out] at hee
                          rw [← hee] at Hcu
                          obtain rfl := Hcu.out
                          clear hwh hee Hcu
                          refine wp_region_quiet_below (by kernel_rfl) (by kernel_rfl) ?_
                          repeat (go_big_quiet_step (first | (go_at_call 28; exact (Hcalls.out _).1) | (go_at_call 36; exact (Hcalls.out _).2)))
                          refine wpQuiet_nil ?_
                          intro W2 hW2
                          have hm2 : Mods (fun _ => False) wr W2 := by obtain ⟨p, rfl⟩ := hW2; exact mods_regrown wr p
                          clear hW2
                          go_wp2_with fail
                          go_roundw
                          case rel => exact ⟨a + 1, by omega, by go_num, HS.out.mods hm2 (fun _ => False.elim) id id id, HO.out.mods hm2 id⟩
                          case measure => simp [intOf]; omega
                  · have HS := Lib.hid hS
                    have HO := Lib.hid hO
                    clear hS hO
                    go_wp2_with fail
                    go_roundw
                    case rel => exact ⟨ko + 1, ps', hs', by omega, by go_num, Hlen.out, HS.out⟩
                    case measure => simp [intOf]; omega
    · have HS := Lib.hid hS
      clear hS
      go_wp2_with fail
      go_ret
      exact ⟨rfl, Hb1.out.trans (HS.out.hb.mono Hb1.out.size)⟩

theorem riskBounds_walk (w : World) (A : Option Addr) (n c : Nat) (l : List Int) (hr : Rd w A n 1 (l.map (Value.int .i64))) (hl : l.length = n) (s : Int) (A2 : Option Addr) (n2 c2 : Nat) (ops : List Op4) (hr2 : Rd w A2 n2 4 (ops.flatMap opCells)) (hl2 : ops.length = n2) :
    Calls Try.prog 9 #[.slice A n c, .int .i64 s, .slice A2 n2 c2] w fun e w' => e = .returned (.bool true) ∧ Below w.heap.size w w' := by
  by_cases h : 16 < n ∨ 100 < n2 ∨ n < 1 ∨ s < 1 ∨ 64 < s
  · exact riskBounds_out w A A2 n c n2 c2 s hr.2.1 hr2.2.1 h
  · obtain ⟨s, rfl⟩ : ∃ k : Nat, s = k := ⟨s.toNat, by omega⟩
    exact riskBounds_in w A A2 n c n2 c2 s l ops hr hl hr2 hl2 (by omega) (by omega) (by omega) (by omega) (by omega)

end Go.Proofs.Yteggpdhkpmkldaa
