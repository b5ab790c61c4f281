import Derived.Test.YteggpdhkpmkldaaKs
namespace Go.Proofs.Yteggpdhkpmkldaa
open Go.RowKit

theorem RfAt.reB {w : World} {B B' br gd gw cw n c : Nat} {A : Option Addr} {ls : List Int} {ps : List Purse} {hs : List Hold} (h : RfAt w B br gd gw cw A n c ls ps hs) (hB : B' ≤ B) (hA : ∀ a, A = some a → a.block < B') : RfAt w B' br gd gw cw A n c ls ps hs :=
  ⟨h.ho, h.hr, h.hd, h.hw, h.h1, h.h2, h.h3, h.hn, h.hp, h.hhs, by have := h.hB; omega, hA⟩

set_option maxHeartbeats 800000 in
set_option maxRecDepth 100000 in
theorem riskPlays_out (w : World) (A A2 : Option Addr) (n c n2 c2 : Nat) (s : Int) (h9 : n ≤ 9223372036854775807) (h92 : n2 ≤ 9223372036854775807) (h : 30 < n ∨ 100 < n2) :
    Calls Try.prog 7 #[.slice A n c, .int .i64 s, .slice A2 n2 c2] w fun e w' => e = .returned (.bool true) ∧ Below w.heap.size w w' := by
  by_cases h1 : 30 < n
  · clear h
    go_enter Try.func7, Try.ntmps7
    go_wp2_with (go_at_call 23; refine (awake17 _).mono ?_; rintro e w' ⟨rfl, hbw⟩)
    go_ret
    exact ⟨rfl, hbw⟩
  · have h2 : 100 < n2 := h.resolve_left h1
    clear h
    go_enter Try.func7, Try.ntmps7
    go_wp2_with (go_at_call 23; refine (awake17 _).mono ?_; rintro e w' ⟨rfl, hbw⟩)
    go_ret
    exact ⟨rfl, hbw⟩

set_option maxHeartbeats 800000 in
set_option maxRecDepth 100000 in
theorem riskPlays_bad (w : World) (A A2 : Option Addr) (n c n2 c2 : Nat) (l : List Int) (s : Int) (hr : Rd w A n 1 (l.map (Value.int .i64))) (hl : l.length = n) (h92 : n2 ≤ 9223372036854775807) (h30 : n ≤ 30) (h100 : n2 ≤ 100) (hb : n < 1 ∨ 16 < n ∨ s < 1 ∨ 64 < s) :
    Calls Try.prog 7 #[.slice A n c, .int .i64 s, .slice A2 n2 c2] w fun e w' => e = .returned (.bool true) ∧ Below w.heap.size w w' := by
  have hf : rightB l n s = false := by
    unfold rightB
    cases l.all inLim <;> simp
    omega
  have HR := Lib.hid hr
  have HL := Lib.hid hl
  have HF := Lib.hid hf
  have HB := Lib.hid hb
  clear hr hl hf hb
  go_enter Try.func7, Try.ntmps7
  go_wp2_with (first
    | (go_at_call 23; refine (awake17 _).mono ?_; rintro e w' ⟨rfl, hbw⟩)
    | (go_at_call 24; refine (kNew_bad _ _ _ _ _ (by omega) HB.out).mono ?_; rintro e w' ⟨rfl, rfl⟩)
    | (go_at_call 29; refine (rRight_any _ _ _ _ l _ (HR.out.below hbw) HL.out h30 false HF.out).mono ?_; rintro e w' ⟨rfl, rfl⟩))
  go_ret
  exact ⟨rfl, hbw⟩

set_option maxHeartbeats 4000000 in
set_option maxRecDepth 100000 in
theorem riskPlays_in (w : World) (A A2 : Option Addr) (n c n2 c2 s : Nat) (l : List Int) (ops : List Op4) (hr : Rd w A n 1 (l.map (Value.int .i64))) (hl : l.length = n) (hr2 : Rd w A2 n2 4 (ops.flatMap opCells)) (hl2 : ops.length = n2) (h1 : n ≤ 16) (h2 : n2 ≤ 100) (h3 : 1 ≤ n) (h4 : 1 ≤ s) (h5 : s ≤ 64) :
    Calls Try.prog 7 #[.slice A n c, .int .i64 s, .slice A2 n2 c2] w fun e w' => e = .returned (.bool true) ∧ Below w.heap.size w w' := by
  have hrb : rightB l n s = l.all inLim := by
    unfold rightB
    have : ((decide ((1 : Int) ≤ n) && decide ((n : Int) ≤ 16)) && (decide ((1 : Int) ≤ s) && decide ((s : Int) ≤ 64))) = true := by simp; omega
    rw [this, Bool.and_true]
  have HR := Lib.hid hr
  have HL := Lib.hid hl
  have HR2 := Lib.hid hr2
  have HL2 := Lib.hid hl2
  have HRB := Lib.hid hrb
  clear hr hl hr2 hl2 hrb
  go_enter Try.func7, Try.ntmps7
  go_wp2_with fail
  refine (awake17 _).mono ?_
  rintro e w1 ⟨rfl, hb1⟩
  have Hb1 := Lib.hid hb1
  clear hb1
  go_wp2_with fail
  refine (kNew_in w1 A n c s l (HR.out.below Hb1.out) HL.out h3 h1 h4 h5).mono ?_
  rintro e w2 ⟨hb2, ⟨hf, rfl⟩ | ⟨hall, b, gp, gh, cp, rfl, hB, l1, l2, l3⟩⟩
  · have Hf : Hid (rightB l n s = false) := Lib.hid (HRB.out.trans hf)
    have Hb2 := Lib.hid (Hb1.out.trans (hb2.mono Hb1.out.size))
    clear hf hb2
    go_wp2_with (go_at_call 29; refine (rRight_any _ _ _ _ l _ (HR.out.below Hb2.out) HL.out (by omega) false Hf.out).mono ?_; rintro e w' ⟨rfl, rfl⟩)
    go_ret
    exact ⟨rfl, Hb2.out⟩
  have Hf : Hid (rightB l n s = true) := Lib.hid (HRB.out.trans hall)
  have hS : RSt w1.heap.size w1 w2 b gp gh cp l (l.map fun x => (x, 0, 0)) (List.replicate s hold0) := ⟨hB, BInv.start hall, hb2, ⟨l1, l2, l3⟩, hb2.size⟩
  have HS0 := Lib.hid hS
  have HI0 := Lib.hid (BInv.start (s := s) hall)
  have Hb2 := Lib.hid (Hb1.out.trans (hb2.mono Hb1.out.size))
  clear hS hB hb2 hall
  go_wp2_with fail
  refine (rRight_any _ _ _ _ l _ (HR.out.below Hb2.out) HL.out (by omega) true Hf.out).mono ?_
  rintro e w' ⟨rfl, rfl⟩
  go_wp2_with fail
  refine (rNew_in w2 A n c s l (HR.out.below Hb2.out) HL.out h3 h1 h4 h5).mono ?_
  rintro e w3 ⟨br, gd, gw, cw, rfl, hRf, hb3⟩
  have hA : ∀ a, A = some a → a.block < w1.heap.size := fun a ha => by
    obtain ⟨b', off, e, hl, _⟩ := HR.out.2.2 (by omega)
    rw [ha] at e; injection e with e; subst e
    exact Nat.lt_of_lt_of_le hl Hb1.out.size
  have hJ : JJ w1.heap.size w2.heap.size w1 w3 b gp gh cp br gd gw cw n c A l (l.map fun x => (x, 0, 0)) (List.replicate s hold0) (l.map fun x => (x, 0, 0)) (List.replicate s hold0) :=
    ⟨HS0.out.mods (Below.mods_ hb3 (fun _ => False)) (fun _ => False.elim) id id id, hRf.reB HS0.out.hs' hA, HI0.out, HS0.out.lt, hRf.hB⟩
  have HJ0 := Lib.hid hJ
  have hC : w1.heap.size ≤ w2.heap.size := HS0.out.hs'
  generalize w2.heap.size = C at *
  clear hJ hRf hb3 hA HS0 HI0 Hb2 Hf
  go_wp2_with fail
  go_loopw [49] (fun i wr => ∃ (k : Nat) (ps : List Purse) (hs : List Hold), k ≤ n2 ∧ i = .int .i64 k ∧ JJ w1.heap.size C w1 wr b gp gh cp br gd gw cw n c A l ps hs ps hs) (fun i _ => n2 - (intOf i).toNat)
  case atStart => exact ⟨0, _, _, by omega, rfl, HJ0.out⟩
  case round =>
    clear HJ0
    obtain ⟨k, ps, hs, hk, rfl, hJ⟩ := hrel
    by_cases hlt : k < n2
    · obtain ⟨x, hx⟩ : ∃ x, ops[k]? = some x := ⟨_, List.getElem?_eq_getElem (by have := HL2.out; omega)⟩
      obtain ⟨g, off, hA, hbl, hcell⟩ := HR2.out.2.2 (by omega)
      subst hA
      have hbB := Hb1.out.trans (hJ.rs.hb.mono Hb1.out.size)
      obtain ⟨o1, o2, o3, o4⟩ := x
      have a0 : _ = some (Value.int .i64 o1) := (hbB.cell (p := ⟨g, off + k * 4, none⟩) hbl).trans (hcell _ _ (flat_at opCells 4 (fun _ => rfl) ops k 0 _ hx (by omega)))
      have a1 : _ = some (Value.int .i64 o2) := (hbB.cell (p := ⟨g, off + k * 4 + 1, none⟩) hbl).trans (hcell _ _ (flat_at opCells 4 (fun _ => rfl) ops k 1 _ hx (by omega)))
      have a2 : _ = some (Value.int .i64 o3) := (hbB.cell (p := ⟨g, off + k * 4 + 2, none⟩) hbl).trans (hcell _ _ (flat_at opCells 4 (fun _ => rfl) ops k 2 _ hx (by omega)))
      have a3 : _ = some (Value.int .i64 o4) := (hbB.cell (p := ⟨g, off + k * 4 + 3, none⟩) hbl).trans (hcell _ _ (flat_at opCells 4 (fun _ => rfl) ops k 3 _ hx (by omega)))
      obtain ⟨z1, z2, z3, z4, z5, z6⟩ := hJ.lt
      have HJ := Lib.hid hJ
      clear hJ hbB hcell hx
      go_upto_region 14 with (fail)
      have hO := Ob.new wr 57 [.int .i64 o1, .int .i64 o2, .int .i64 o3, .int .i64 o4]
      refine cutW (fun W => JJ w1.heap.size C w1 W b gp gh cp br gd gw cw n c A l ps hs ps hs ∧ Ob W wr.heap.size 57 [.int .i64 o1, .int .i64 o2, .int .i64 o3, .int .i64 o4]) ⟨HJ.out.mods ((Mods.refl _ wr).alloc _), hO⟩ ?_
      clear hO HJ a0 a1 a2 a3
      rintro W ⟨hJ, hO⟩
      have hoc := hO.cell
      have HJ := Lib.hid hJ
      have HO := Lib.hid hO
      generalize wr.heap.size = N at *
      clear hJ hO
      go_wp2_with fail
      refine (rStep_any w1.heap.size C w1 b gp gh cp br gd gw cw n c A l ps hs W (o1, o2, o3, o4) HJ.out).mono ?_
      rintro e w4 ⟨rfl, hJ4, hM4⟩
      have ho4 := (HO.out.mods hM4 (fun h => by rcases h with h | h | h | h <;> omega))
      have hoc4 := ho4.cell
      have HJ4 := Lib.hid hJ4
      clear hJ4 hM4 hoc HJ HO
      go_wp2_with fail
      refine (rTold_any w1.heap.size C w1 b gp gh cp br gd gw cw n c A l _ _ w4 (o1, o2, o3, o4) HJ4.out).mono ?_
      rintro e w5 ⟨rfl, hM5⟩
      have HJ5 := Lib.hid (HJ4.out.mods hM5)
      clear hM5 ho4 hoc4 HJ4
      go_wp2_with fail
      go_roundw
      case rel => exact ⟨k + 1, _, _, by omega, by go_num, HJ5.out⟩
      case measure => simp [intOf]; omega
    · have HJ := Lib.hid hJ
      clear hJ
      go_wp2_with fail
      go_ret
      exact ⟨rfl, Hb1.out.trans (HJ.out.rs.hb.mono Hb1.out.size)⟩

theorem riskPlays_walk (w : World) (A : Option Addr) (n c : Nat) (l : List Int) (hr : Rd w A n 1 (l.map (Value.int .i64))) (hl : l.length = n) (s : Int) (A2 : Option Addr) (n2 c2 : Nat) (ops : List Op4) (hr2 : Rd w A2 n2 4 (ops.flatMap opCells)) (hl2 : ops.length = n2) :
    Calls Try.prog 7 #[.slice A n c, .int .i64 s, .slice A2 n2 c2] w fun e w' => e = .returned (.bool true) ∧ Below w.heap.size w w' := by
  by_cases h : 30 < n ∨ 100 < n2
  · exact riskPlays_out w A A2 n c n2 c2 s hr.2.1 hr2.2.1 h
  by_cases hb : n < 1 ∨ 16 < n ∨ s < 1 ∨ 64 < s
  · exact riskPlays_bad w A A2 n c n2 c2 l s hr hl hr2.2.1 (by omega) (by omega) hb
  obtain ⟨s, rfl⟩ : ∃ k : Nat, s = k := ⟨s.toNat, by omega⟩
  exact riskPlays_in w A A2 n c n2 c2 s l ops hr hl hr2 hl2 (by omega) (by omega) (by omega) (by omega) (by omega)

end Go.Proofs.Yteggpdhkpmkldaa
