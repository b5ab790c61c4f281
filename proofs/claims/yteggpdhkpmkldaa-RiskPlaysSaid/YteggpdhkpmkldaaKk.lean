import Derived.Test.YteggpdhkpmkldaaKj
import Derived.Test.YteggpdhkpmkldaaRkO
namespace Go.Proofs.Yteggpdhkpmkldaa
open Go.RowKit

theorem info3 : (Try.prog.info? 3).map (fun i => (i.zero, i.size, i.bytes)) = some (some (.int .i64 0), 1, 8) := by kernel_rfl
theorem madeCells_one (v : Value) (n : Nat) : madeCells #[v] n = (List.replicate n v).toArray := by
  apply Array.ext
  · simp [madeCells]
  · intro i h1 h2
    simp [madeCells, Nat.mod_one]

/-- A book that a law made behind the world w (B: its size), and what was there is as it was. -/
structure RSt (B : Nat) (w wr : World) (b gp gh cp : Nat) (ls : List Int) (ps : List Purse) (hs : List Hold) : Prop where
  hB : BkAt wr b gp gh cp ps hs
  hI : BInv ls ps hs
  hb : Below B w wr
  h1 : B ≤ b ∧ B ≤ gp ∧ B ≤ gh
  hs' : B ≤ wr.heap.size
section
variable {B : Nat} {w wr : World} {b gp gh cp : Nat} {ls : List Int} {ps : List Purse} {hs : List Hold}
theorem RSt.turned (h : RSt B w wr b gp gh cp ls ps hs) {wr' : World} {ps' : List Purse} {hs'' : List Hold} (h1 : BkAt wr' b gp gh cp ps' hs'') (h2 : BInv ls ps' hs'') (hm : Mods (fun k => k = gp ∨ k = gh) wr wr') : RSt B w wr' b gp gh cp ls ps' hs'' :=
  ⟨h1, h2, bk_below h.hb hm h.h1.2.1 h.h1.2.2 h.hs', h.h1, Nat.le_trans h.hs' hm.size⟩
theorem RSt.mods (h : RSt B w wr b gp gh cp ls ps hs) {wr' : World} {S : Nat → Prop} (hm : Mods S wr wr') (hS : ∀ k, S k → B ≤ k) (hb : ¬ S b) (hp : ¬ S gp) (hh : ¬ S gh) : RSt B w wr' b gp gh cp ls ps hs :=
  ⟨h.hB.mods hm hb hp hh, h.hI, Below.mods h.hb hm hS h.hs', h.h1, Nat.le_trans h.hs' hm.size⟩
theorem RSt.drewN (h : RSt B w wr b gp gh cp ls ps hs) (k : Nat) : RSt B w (wr.drewN k) b gp gh cp ls ps hs := h.mods ((Mods.refl (fun _ => False) wr).drewN k) (fun _ => False.elim) id id id
theorem RSt.alloc (h : RSt B w wr b gp gh cp ls ps hs) (o : Obj) : RSt B w (wr.alloc o) b gp gh cp ls ps hs := h.mods ((Mods.refl (fun _ => False) wr).alloc o) (fun _ => False.elim) id id id
theorem RSt.lt (h : RSt B w wr b gp gh cp ls ps hs) : b < wr.heap.size ∧ gp < wr.heap.size ∧ gh < wr.heap.size := ⟨h.hB.ho.lt, h.hB.hp.elim fun _ h => h.lt, h.hB.hh.lt⟩
theorem RSt.used (h : RSt B w wr b gp gh cp ls ps hs) (a : Int) (k : Nat) : Calls Try.prog 28 #[.pointer (some ⟨b, 0, none⟩), .int .i64 a] (wr.drewN k) fun e w' => e = .returned (.int .i64 (bUsed ps a)) ∧ ∃ j, w' = wr.drewN j :=
  (kUsed_any (wr.drewN k) a (h.hB.drewN k) h.hI).mono fun _ _ ⟨he, j, hw⟩ => ⟨he, k + j, by rw [hw, World.drewN_drewN]⟩
end

theorem bUsed_le {ls : List Int} {ps : List Purse} {hs : List Hold} (h : BInv ls ps hs) (a : Int) : 0 ≤ bUsed ps a ∧ bUsed ps a ≤ 4611686018427387904 := by
  rcases inB_cases ps.length a with h1 | ⟨a, rfl, ha⟩
  · unfold bUsed; rw [if_neg (by rw [h1]; simp)]; omega
  · obtain ⟨p, hp⟩ : ∃ p, ps[a]? = some p := ⟨_, List.getElem?_eq_getElem ha⟩
    obtain ⟨⟨o1, o2, o3, o4, o5⟩, _⟩ := h.hp a p hp
    unfold bUsed; rw [if_pos (inB_lt ha), pAt_of hp]; omega

abbrev Op4 := Int × Int × Int × Int
set_option maxHeartbeats 800000 in
set_option maxRecDepth 100000 in
theorem riskRefused_out (w : World) (A A2 : Option Addr) (n c n2 c2 : Nat) (x1 x2 x3 x4 : Int) (h9 : n ≤ 9223372036854775807) (h92 : n2 ≤ 9223372036854775807) (h : 16 < n ∨ 60 < n2 ∨ n < 1) :
    Calls Try.prog 6 #[.slice A n c, .slice A2 n2 c2, .agg #[.int .i64 x1, .int .i64 x2, .int .i64 x3, .int .i64 x4]] w fun e w' => e = .returned (.bool true) ∧ Below w.heap.size w w' := by
  by_cases h1 : 16 < n
  · clear h
    go_enter Try.func6, Try.ntmps6
    go_wp2_with (go_at_call 23; refine (awake17 _).mono ?_; rintro e w' ⟨rfl, hbw⟩)
    go_ret
    exact ⟨rfl, Below.alloc_set.trans (hbw.mono (by simp))⟩
  by_cases h2 : 60 < n2
  · clear h
    go_enter Try.func6, Try.ntmps6
    go_wp2_with (go_at_call 23; refine (awake17 _).mono ?_; rintro e w' ⟨rfl, hbw⟩)
    go_ret
    exact ⟨rfl, Below.alloc_set.trans (hbw.mono (by simp))⟩
  have h3 : n < 1 := by omega
  clear h
  go_enter Try.func6, Try.ntmps6
  go_wp2_with (first | (go_at_call 23; refine (awake17 _).mono ?_; rintro e w' ⟨rfl, hbw⟩) | (go_at_call 24; refine (kNew_bad _ _ _ _ _ h9 (.inl h3)).mono ?_; rintro e w' ⟨rfl, rfl⟩))
  go_ret
  exact ⟨rfl, Below.alloc_set.trans (hbw.mono (by simp))⟩

set_option maxHeartbeats 4000000 in
set_option maxRecDepth 100000 in
theorem riskRefused_in (w : World) (A A2 : Option Addr) (n c n2 c2 : Nat) (l : List Int) (ops : List Op4) (hr : Rd w A n 1 (l.map (Value.int .i64))) (hl : l.length = n) (hr2 : Rd w A2 n2 4 (ops.flatMap opCells)) (hl2 : ops.length = n2) (x1 x2 x3 x4 : Int) (h1 : n ≤ 16) (h2 : n2 ≤ 60) (h3 : 1 ≤ n) :
    Calls Try.prog 6 #[.slice A n c, .slice A2 n2 c2, .agg #[.int .i64 x1, .int .i64 x2, .int .i64 x3, .int .i64 x4]] w fun e w' => e = .returned (.bool true) ∧ Below w.heap.size w w' := by
  have HR := Lib.hid hr
  have HL := Lib.hid hl
  have HR2 := Lib.hid hr2
  have HL2 := Lib.hid hl2
  clear hr hl hr2 hl2
  go_enter Try.func6, Try.ntmps6
  go_wp2_with fail
  generalize hW0 : w.alloc (.cells #[.int .i64 x1, .int .i64 x2, .int .i64 x3, .int .i64 x4] 57) = w0
  refine (awake17 _).mono ?_
  rintro e w1 ⟨rfl, hb⟩
  have ho1 : Ob w0 w.heap.size 57 [.int .i64 x1, .int .i64 x2, .int .i64 x3, .int .i64 x4] := by subst hW0; exact Ob.new w 57 _
  have hsz : w0.heap.size = w.heap.size + 1 := by subst hW0; simp
  have hb0 : Below w.heap.size w w0 := by subst hW0; exact Below.alloc_set
  have ho2 := ho1.below hb (by omega)
  have hb1 : Below w.heap.size w w1 := hb0.trans (hb.mono (by omega))
  have hs1 : w.heap.size + 1 ≤ w1.heap.size := by have := hb.size; omega
  clear hW0 hb hb0 ho1 hsz
  have Hb1 := Lib.hid hb1
  have Ho := Lib.hid ho2
  clear hb1 ho2
  go_wp2_with fail
  refine (kNew_in w1 A n c 4 l (HR.out.below Hb1.out) HL.out h3 h1 (by decide) (by decide)).mono ?_
  rintro e w2 ⟨hb2, ⟨hf, rfl⟩ | ⟨hall, b, gp, gh, cp, rfl, hB, l1, l2, l3⟩⟩
  · go_wp2_with fail
    go_ret
    exact ⟨rfl, Hb1.out.trans (hb2.mono Hb1.out.size)⟩
  have hS : RSt w1.heap.size w1 w2 b gp gh cp l (l.map fun x => (x, 0, 0)) (List.replicate 4 hold0) := ⟨hB, BInv.start hall, hb2, ⟨l1, l2, l3⟩, hb2.size⟩
  have HS0 := Lib.hid hS
  clear hS hB hb2 hall
  go_wp2_with fail
  go_loopw [36] (fun i wr => ∃ (k : Nat) (ps : List Purse) (hs : List Hold), k ≤ n2 ∧ i = .int .i64 k ∧ RSt w1.heap.size w1 wr b gp gh cp l ps hs) (fun i _ => n2 - (intOf i).toNat)
  case atStart => exact ⟨0, _, _, by omega, rfl, HS0.out⟩
  case round =>
    clear HS0
    obtain ⟨k, ps, hs, hk, rfl, hS⟩ := hrel
    by_cases hlt : k < n2
    · obtain ⟨x, hx⟩ : ∃ x, ops[k]? = some x := ⟨_, List.getElem?_eq_getElem (by have := HL2.out; omega)⟩
      obtain ⟨g, off, hA, hbl, hcell⟩ := HR2.out.2.2 (by omega)
      subst hA
      have hbB := Hb1.out.trans (hS.hb.mono Hb1.out.size)
      obtain ⟨o1, o2, o3, o4⟩ := x
      have a0 : _ = some (Value.int .i64 o1) := (hbB.cell (p := ⟨g, off + k * 4, none⟩) hbl).trans (hcell _ _ (flat_at opCells 4 (fun _ => rfl) ops k 0 _ hx (by omega)))
      have a1 : _ = some (Value.int .i64 o2) := (hbB.cell (p := ⟨g, off + k * 4 + 1, none⟩) hbl).trans (hcell _ _ (flat_at opCells 4 (fun _ => rfl) ops k 1 _ hx (by omega)))
      have a2 : _ = some (Value.int .i64 o3) := (hbB.cell (p := ⟨g, off + k * 4 + 2, none⟩) hbl).trans (hcell _ _ (flat_at opCells 4 (fun _ => rfl) ops k 2 _ hx (by omega)))
      have a3 : _ = some (Value.int .i64 o4) := (hbB.cell (p := ⟨g, off + k * 4 + 3, none⟩) hbl).trans (hcell _ _ (flat_at opCells 4 (fun _ => rfl) ops k 3 _ hx (by omega)))
      have HS := Lib.hid hS
      clear hS hbB hcell hx
      by_cases hk1 : o1 = 1
      · subst hk1
        go_wp2_with fail
        refine (kReserve_any _ b gp gh cp l ps hs _ _ _ (HS.out.hB.alloc _) HS.out.hI).mono ?_
        rintro e w4 ⟨rfl, q1, q2, q3⟩
        have HS4 := Lib.hid ((HS.out.alloc _).turned q1 q2 q3)
        clear q1 q2 q3 HS
        go_wp2_with fail
        go_roundw
        case rel => exact ⟨k + 1, _, _, by omega, by go_num, HS4.out⟩
        case measure => simp [intOf]; omega
      · have hk1' : (o1 == 1) = false := by simpa using hk1
        by_cases hk2 : o1 = 2
        · subst hk2
          clear hk1
          go_wp2_with fail
          refine (kResize_any _ b gp gh cp l ps hs _ _ (HS.out.hB.alloc _) HS.out.hI).mono ?_
          rintro e w4 ⟨rfl, q1, q2, q3⟩
          have HS4 := Lib.hid ((HS.out.alloc _).turned q1 q2 q3)
          clear q1 q2 q3 HS
          go_wp2_with fail
          go_roundw
          case rel => exact ⟨k + 1, _, _, by omega, by go_num, HS4.out⟩
          case measure => simp [intOf]; omega
        · have hk2' : (o1 == 2) = false := by simpa using hk2
          clear hk1 hk2
          go_wp2_with fail
          refine (kSettle_any _ b gp gh cp l ps hs _ _ (HS.out.hB.alloc _) HS.out.hI).mono ?_
          rintro e w4 ⟨rfl, q1, q2, q3⟩
          have HS4 := Lib.hid ((HS.out.alloc _).turned q1 q2 q3)
          clear q1 q2 q3 HS
          go_wp2_with fail
          go_roundw
          case rel => exact ⟨k + 1, _, _, by omega, by go_num, HS4.out⟩
          case measure => simp [intOf]; omega
    · have HS := Lib.hid hS
      obtain ⟨q1, q2, q3⟩ := hS.lt
      obtain ⟨r1, r2, r3⟩ := hS.h1
      have r4 := hS.hs'
      clear hS
      obtain ⟨i0, hi0, hz0, hz1, hz2⟩ := info_parts info3
      have hmk : ∀ W : World, (Instr.makeSlice 54 (.int .i64 (n : Int)) (.int .i64 (n : Int))).run Try.prog W = .ok (.slice (some ⟨W.heap.size, 0, none⟩) n n) (W.alloc (.cells (List.replicate n (.int .i64 0)).toArray 3)) := fun W => by
        have hr := run_make (P := Try.prog) W 54 3 i0 (.int .i64 0) Try.underlying54 hi0 hz0 .i64 .i64 n n (by omega) (by omega) (by rw [hz2]; omega) (by omega)
        simp only [Int.toNat_natCast] at hr
        rw [hr, hz1, Nat.mul_one, ← madeCells_one]
        rfl
      clear hi0 hz0 hz1 hz2
      generalize hrow : (List.replicate n (Value.int .i64 0)).toArray = row at hmk
      have hO0 : Ob (wr.alloc (.cells row 3)) wr.heap.size 3 ((List.replicate n (0 : Int)).map (Value.int .i64)) := by
        subst hrow; rw [List.map_replicate]; exact Ob.new wr 3 _
      have HO0 := Lib.hid hO0
      have HS1 := Lib.hid (HS.out.alloc (.cells row 3))
      clear hO0 hrow HS
      go_wp2_with fail
      clear hmk
      generalize wr.alloc (.cells row 3) = wy at *
      generalize wr.heap.size = ug at *
      go_loopw [72] (fun i wx => ∃ (k : Nat) (us : List Int), k ≤ n ∧ i = .int .i64 k ∧ us.length = n ∧ Ob wx ug 3 (us.map (Value.int .i64)) ∧ (∀ i : Nat, i < k → us[i]? = some (bUsed ps i)) ∧ RSt w1.heap.size w1 wx b gp gh cp l ps hs) (fun i _ => n - (intOf i).toNat)
      case atStart => exact ⟨0, _, by omega, rfl, by simp, HO0.out, fun i hi => by omega, HS1.out⟩
      case round =>
        clear HO0 HS1
        obtain ⟨k, us, hk, rfl, hul, hO, hus, hS⟩ := hrel
        have HS := Lib.hid hS
        have HO := Lib.hid hO
        have Hus := Lib.hid hus
        have Hul := Lib.hid hul
        clear hS hus hul
        by_cases hlt : k < n
        · obtain ⟨u, hu⟩ : ∃ u, us[k]? = some u := ⟨_, List.getElem?_eq_getElem (by have := Hul.out; omega)⟩
          have hcu : _ = some (Value.int .i64 u) := (hO.cell k).trans (by rw [List.getElem?_map, hu]; rfl)
          have hzu := hO.frozen k
          clear hO hu
          go_wp2_with (go_at_call 28; refine (HS.out.used k 0).mono ?_; rintro e w' ⟨rfl, j, rfl⟩)
          go_roundw
          case rel =>
            refine ⟨k + 1, us.set k (bUsed ps k), by omega, by go_num, by rw [List.length_set]; exact Hul.out, ?_, ?_, ?_⟩
            · rw [List.map_set]; exact (HO.out.drewN j).set k _
            · intro i hi
              by_cases hik : i = k
              · subst hik; exact List.getElem?_set_self (by rw [Hul.out]; exact hlt)
              · rw [List.getElem?_set_ne (fun e => hik e.symm)]; exact Hus.out i (by omega)
            · exact (HS.out.drewN j).mods (S := fun k => k = ug) ((Mods.refl (fun k => k = ug) _).setCell (⟨ug, k, none⟩ : Addr) (Or.inl rfl) _) (fun k hk => by omega) (by omega) (by omega) (by omega)
          case measure => simp [intOf]; omega
        · have hkn : k = n := by omega
          subst hkn
          clear hO
          have hoB := Ho.out.below HS.out.hb (by omega)
          have hoc := hoB.cell
          have HoB := Lib.hid hoB
          clear hoB
          go_wp2_with fail
          refine (kReserve_any _ b gp gh cp l ps hs _ _ _ HS.out.hB HS.out.hI).mono ?_
          rintro e w4 ⟨rfl, q1, q2, q3⟩
          have hS4 := HS.out.turned q1 q2 q3
          have hO4 := HO.out.mods q3 (fun h => by omega)
          have HoB4 := Lib.hid (HoB.out.mods q3 (fun h => by omega))
          have HIv := Lib.hid HS.out.hI
          clear hoc HS HO HoB q1 q2 q3
          go_upto_region 25 with (fail)
          generalize hres : bRes ps hs x2 x3 x4 = res at *
          obtain ⟨r, ps1, hs1'⟩ := res
          simp only at hS4 ⊢
          -- behind the test: nothing has turned
          have Hus' := Hus
          have HS4 := Lib.hid hS4
          have HO4 := Lib.hid hO4
          have Hres := Lib.hid hres
          clear hres
          go_cut [113] (fun s wx => s = .bool false ∧ ∃ ps2 hs2, RSt w1.heap.size w1 wx b gp gh cp l ps2 hs2 ∧ Ob wx ug 3 (us.map (Value.int .i64)) ∧ ∀ i, bUsed ps2 i = bUsed ps i)
          case first =>
            by_cases hr0 : r = 0
            · subst hr0
              obtain ⟨⟨a, rfl, ha⟩, hu, ps2, hs2, hst, hlen, hall⟩ := res_stl HIv.out Hres.out
              have Hall := Lib.hid hall
              have Hu := Lib.hid hu
              have hset : ∀ k, Calls Try.prog 27 #[.pointer (some ⟨b, 0, none⟩), .int .i64 x3, .int .i64 0] (w4.drewN k) fun e w' => e = .returned (.int .i64 0) ∧ RSt w1.heap.size w1 w' b gp gh cp l ps2 hs2 ∧ Mods (fun k => k = gp ∨ k = gh) w4 w' := fun k => by
                have h := kSettle_any (w4.drewN k) b gp gh cp l ps1 hs1' x3 0 (HS4.out.hB.drewN k) HS4.out.hI
                rw [hst] at h
                exact h.mono fun e w' ⟨he, h1, h2, h3⟩ => ⟨he, (HS4.out.drewN k).turned h1 h2 h3, ((Mods.refl _ w4).drewN k).trans h3⟩
              have Hset := Lib.hid hset
              have han : a < k := by have := HIv.out.len; have := HL.out; omega
              have hbd := bUsed_le HS4.out.hI a
              rw [hu] at hbd
              have hoc := HoB4.out.cell
              have f1 : w4.cell? ⟨w.heap.size, 1, none⟩ = some (.int .i64 a) := hoc 1
              have f2 : w4.cell? ⟨w.heap.size, 2, none⟩ = some (.int .i64 x3) := hoc 2
              have f3 : w4.cell? ⟨w.heap.size, 3, none⟩ = some (.int .i64 x4) := hoc 3
              have f4 : w4.cell? ⟨ug, a, none⟩ = some (.int .i64 (bUsed ps a)) := (HO4.out.cell a).trans (by rw [List.getElem?_map, Hus.out a han]; rfl)
              have hw : IntKind.i64.wrap (bUsed ps a + x4) = bUsed ps a + x4 := by rw [IntWalk.i64_in _ (by omega)]
              clear hall hu hset hS4 hO4 hbd hst hlen hoc
              go_region_held3 (fun w' => w'.cell? ⟨w.heap.size, 1, none⟩ = some (.int .i64 a) ∧ w'.cell? ⟨w.heap.size, 2, none⟩ = some (.int .i64 x3) ∧ w'.cell? ⟨w.heap.size, 3, none⟩ = some (.int .i64 x4) ∧ w'.cell? ⟨ug, a, none⟩ = some (.int .i64 (bUsed ps a))) (first | exact ⟨f1, f2, f3, f4⟩ | exact ⟨g1, g2, g3, g4⟩ | go_keep)
                (first
                  | (go_at_call 28; refine (HS4.out.used _ _).mono ?_; rintro e w' ⟨rfl, j, rfl⟩; rw [Hu.out])
                  | (go_at_call 27; refine (Hset.out _).mono ?_; rintro e w' ⟨rfl, q1, q2⟩; have g1 := (HoB4.out.mods q2 (fun h => by omega)).cell 1; have g2 := (HoB4.out.mods q2 (fun h => by omega)).cell 2; have g3 := (HoB4.out.mods q2 (fun h => by omega)).cell 3; have g4 := ((HO4.out.mods q2 (fun h => by omega)).cell a).trans ((HO4.out.cell a).symm.trans f4)))
              go_wp2_with fail
              go_meet
              exact ⟨rfl, ps2, hs2, q1, HO4.out.mods q2 (fun h => by omega), Hall.out⟩
            · have hr0' : (r == 0) = false := by simpa using hr0
              have hn := res_not (ps := ps) (hs := hs) (a := x2) (s := x3) (n := x4) (by rw [Hres.out]; exact hr0)
              rw [Hres.out] at hn
              obtain ⟨e1, e2⟩ : ps1 = ps ∧ hs1' = hs := by simpa using hn
              subst e1 e2
              clear hn
              clear hS4 hO4 hr0
              go_quiet (fail)
              go_wp2_with fail
              go_meet
              exact ⟨rfl, ps1, hs1', HS4.out.drewN _, HO4.out.drewN _, fun _ => rfl⟩
          case rest =>
            obtain ⟨rfl, ps2, hs2, hS5, hO5, hall⟩ := hcut
            have HS5 := Lib.hid hS5
            have HO5 := Lib.hid hO5
            have Hall := Lib.hid hall
            clear hS5 hO5 hall hS4 hO4 HS4 HO4 HoB4 Hres HIv
            go_wp2_with fail
            go_loopw [116] (fun i wx => ∃ k2 : Nat, k2 ≤ k ∧ i = .int .i64 k2 ∧ RSt w1.heap.size w1 wx b gp gh cp l ps2 hs2 ∧ Ob wx ug 3 (us.map (Value.int .i64))) (fun i _ => k - (intOf i).toNat)
            case atStart => exact ⟨0, by omega, rfl, HS5.out, HO5.out⟩
            case round =>
              clear HS5 HO5
              obtain ⟨k2, hk2, rfl, hS, hO⟩ := hrel
              have HS := Lib.hid hS
              have HO := Lib.hid hO
              by_cases hlt : k2 < k
              · have f4 : _ = some (Value.int .i64 (bUsed ps k2)) := (hO.cell k2).trans (by rw [List.getElem?_map, Hus.out k2 hlt]; rfl)
                have hu : ∀ j, Calls Try.prog 28 #[.pointer (some ⟨b, 0, none⟩), .int .i64 k2] _ fun e w' => e = .returned (.int .i64 (bUsed ps k2)) ∧ ∃ j, w' = _ := fun j => by
                  have := hS.used (k2 : Int) j
                  rw [Hall.out] at this
                  exact this
                have Hu := Lib.hid hu
                clear hS hO hu
                go_upto_region 30 with (fail)
                go_quiet ((go_at_call 28; exact Hu.out _))
                go_wp2_with fail
                go_roundw
                case rel => exact ⟨k2 + 1, by omega, by go_num, HS.out.drewN _, HO.out.drewN _⟩
                case measure => simp [intOf]; omega
              · clear hS hO
                go_wp2_with fail
                go_ret
                exact ⟨rfl, Hb1.out.trans (HS.out.hb.mono Hb1.out.size)⟩

theorem riskRefused_walk (w : World) (A : Option Addr) (n c : Nat) (l : List Int) (hr : Rd w A n 1 (l.map (Value.int .i64))) (hl : l.length = n) (A2 : Option Addr) (n2 c2 : Nat) (ops : List Op4) (hr2 : Rd w A2 n2 4 (ops.flatMap opCells)) (hl2 : ops.length = n2) (x : Op4) :
    Calls Try.prog 6 #[.slice A n c, .slice A2 n2 c2, .agg #[.int .i64 x.1, .int .i64 x.2.1, .int .i64 x.2.2.1, .int .i64 x.2.2.2]] w fun e w' => e = .returned (.bool true) ∧ Below w.heap.size w w' := by
  by_cases h : 16 < n ∨ 60 < n2 ∨ n < 1
  · exact riskRefused_out w A A2 n c n2 c2 _ _ _ _ hr.2.1 hr2.2.1 h
  · exact riskRefused_in w A A2 n c n2 c2 l ops hr hl hr2 hl2 _ _ _ _ (by omega) (by omega) (by omega)

end Go.Proofs.Yteggpdhkpmkldaa
