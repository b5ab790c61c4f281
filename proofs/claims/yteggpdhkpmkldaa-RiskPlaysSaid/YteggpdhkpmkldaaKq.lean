import Derived.Test.YteggpdhkpmkldaaKp
namespace Go.Proofs.Yteggpdhkpmkldaa
open Go.RowKit

theorem info119 : (Try.prog.info? 119).map (fun i => (i.zero, i.size, i.bytes)) = some (some (.agg #[.int .i64 0, .int .i64 0]), 2, 16) := by kernel_rfl

def rightB (l : List Int) (n : Nat) (s : Int) : Bool := l.all inLim && ((decide ((1 : Int) ≤ n) && decide ((n : Int) ≤ 16)) && (decide (1 ≤ s) && decide (s ≤ 64)))
set_option maxHeartbeats 800000 in
theorem rRight_any (w : World) (A : Option Addr) (n c : Nat) (l : List Int) (s : Int) (hr : Rd w A n 1 (l.map (Value.int .i64))) (hl : l.length = n) (h30 : n ≤ 30) (r : Bool) (hv : rightB l n s = r) :
    Calls Try.prog 29 #[.slice A n c, .int .i64 s] w fun e w' => e = .returned (.bool r) ∧ w = w' := by
  have HR := Lib.hid hr
  have HL := Lib.hid hl
  have HV := Lib.hid hv
  clear hr hl hv
  go_enter Try.func29, Try.ntmps29
  go_wp2_with fail
  go_loop [5] (fun i => ∃ (k : Nat), k ≤ n ∧ i = .int .i64 k ∧ (l.take k).all inLim = true) (fun i => n - (intOf i).toNat)
  case atStart => exact ⟨0, by omega, rfl, rfl⟩
  case round =>
    obtain ⟨k, hk, rfl, hall⟩ := hrel
    have Hall := Lib.hid hall
    clear hall
    by_cases hlt : k < n
    · obtain ⟨x, hx⟩ : ∃ x, l[k]? = some x := ⟨_, List.getElem?_eq_getElem (by have := HL.out; omega)⟩
      obtain ⟨g, off, hA, hbl, hcell⟩ := HR.out.2.2 (by omega)
      subst hA
      have a0 := hcell k (.int .i64 x) (by rw [List.getElem?_map, hx]; rfl)
      have Hx := Lib.hid hx
      clear hx hcell
      cases hin : inLim x with
      | false =>
        have hw : (decide (0 ≤ x) && decide (x ≤ 4611686018427387904)) = false := hin
        have Hin := Lib.hid hin
        have Hw := Lib.hid hw
        clear hin hw
        go_wp2_with (go_at_call 61; refine (rIn _ _ _ _).mono ?_; rintro e w' ⟨rfl, rfl⟩; rw [Hw.out])
        go_ret
        refine ⟨ret_bool ?_, rfl⟩
        rw [← HV.out]
        unfold rightB
        rw [all_false _ Hx.out Hin.out]
        rfl
      | true =>
        have hw : (decide (0 ≤ x) && decide (x ≤ 4611686018427387904)) = true := hin
        have Hin := Lib.hid hin
        have Hw := Lib.hid hw
        clear hin hw
        go_wp2_with (go_at_call 61; refine (rIn _ _ _ _).mono ?_; rintro e w' ⟨rfl, rfl⟩; rw [Hw.out])
        go_round
        case rel => exact ⟨k + 1, by omega, by go_num, all_take_succ _ Hall.out Hx.out Hin.out⟩
        case measure => simp [intOf]; omega
    · have hkn : k = n := by omega
      subst hkn
      have hall : l.all inLim = true := by have := Hall.out; rwa [List.take_of_length_le (by rw [HL.out]; exact Nat.le_refl _)] at this
      have hv := HV.out
      unfold rightB at hv
      rw [hall, Bool.true_and] at hv
      cases h1 : (decide ((1 : Int) ≤ k) && decide ((k : Int) ≤ 16)) with
      | false =>
        have H1 := Lib.hid h1
        rw [h1] at hv
        simp only [Bool.false_and] at hv
        have Hv := Lib.hid hv
        clear h1 hv hall
        go_wp2_with (go_at_call 61; refine (rIn _ _ _ _).mono ?_; rintro e w' ⟨rfl, rfl⟩; rw [H1.out])
        go_ret
        exact ⟨ret_bool Hv.out, rfl⟩
      | true =>
        have H1 := Lib.hid h1
        rw [h1] at hv
        simp only [Bool.true_and] at hv
        obtain ⟨q, hq⟩ : ∃ q, (decide (1 ≤ s) && decide (s ≤ 64)) = q := ⟨_, rfl⟩
        rw [hq] at hv
        have Hq := Lib.hid hq
        have Hv := Lib.hid hv
        clear h1 hv hall hq
        go_wp2_with (go_at_call 61; refine (rIn _ _ _ _).mono ?_; rintro e w' ⟨rfl, rfl⟩; first | rw [H1.out] | rw [Hq.out])
        go_ret
        exact ⟨ret_bool Hv.out, rfl⟩

/-- The document's New at round k. -/
structure RNewL (w wr : World) (A : Option Addr) (n c : Nat) (k : Nat) (v : Value) : Prop where
  ho : Ob wr (w.heap.size + 1) 117 [.slice A n c, .slice (some ⟨w.heap.size, 0, none⟩) n n, v]
  hd : Ob wr w.heap.size 3 (List.replicate n (.int .i64 0))
  hp : wr.ownsRow (w.heap.size + 2) 119 2 v k ((List.replicate k hold0).flatMap wc)
  hb : Below w.heap.size w wr
  hs : w.heap.size + 2 ≤ wr.heap.size

set_option maxHeartbeats 2000000 in
set_option maxRecDepth 100000 in
theorem rNew_in (w : World) (A : Option Addr) (n c s : Nat) (l : List Int) (hr : Rd w A n 1 (l.map (Value.int .i64))) (hl : l.length = n) (h1 : 1 ≤ n) (h2 : n ≤ 16) (h3 : 1 ≤ s) (h4 : s ≤ 64) :
    Calls Try.prog 30 #[.slice A n c, .int .i64 s] w fun e w' => ∃ br gd gw cw, e = .returned (.pointer (some ⟨br, 0, none⟩)) ∧ RfAt w' w.heap.size br gd gw cw A n c l (l.map fun x => (x, 0, 0)) (List.replicate s hold0) ∧ Below w.heap.size w w' := by
  obtain ⟨i0, hi0, hz0, hz1, hz2⟩ := info_parts info119
  have HI := Lib.hid hi0
  have HZ0 := Lib.hid hz0
  have HZ1 := Lib.hid hz1
  have HZ2 := Lib.hid hz2
  clear hi0 hz0 hz1 hz2
  obtain ⟨i3, hi0, hz0, hz1, hz2⟩ := info_parts info3
  have hmk : ∀ W : World, (Instr.makeSlice 54 (.int .i64 (n : Int)) (.int .i64 (n : Int))).run Try.prog W = .ok (.slice (some ⟨W.heap.size, 0, none⟩) n n) (W.alloc (.cells (List.replicate n (.int .i64 0)).toArray 3)) := fun W => by
    have hr := run_make (P := Try.prog) W 54 3 i3 (.int .i64 0) Try.underlying54 hi0 hz0 .i64 .i64 n n (by omega) (by omega) (by rw [hz2]; omega) (by omega)
    simp only [Int.toNat_natCast] at hr
    rw [hr, hz1, Nat.mul_one, ← madeCells_one]
    rfl
  clear hi0 hz0 hz1 hz2
  have HR := Lib.hid hr
  have HL := Lib.hid hl
  clear hr hl
  generalize hrow : (List.replicate n (Value.int .i64 0)).toArray = row at hmk
  have HRow := Lib.hid hrow
  clear hrow
  go_enter Try.func30, Try.ntmps30
  go_wp2_with fail
  have hP : RNewL w ((w.alloc (.cells row 3)).alloc (.cells #[.slice A n c, .slice (some ⟨w.heap.size, 0, none⟩) n n, .slice none 0 0] 117)) A n c 0 (.slice none 0 0) := ⟨Ob.new2 w _ _ _, by rw [← HRow.out]; exact (Ob.new w _ _).alloc _, own_nil _ _ _ _, ((Below.refl _ w).alloc (Nat.le_refl _) _).alloc (by simp) _, by simp⟩
  have HP0 := Lib.hid hP
  clear hP
  go_loopw [6] (fun i wr => ∃ (k : Nat) (v : Value), k ≤ s ∧ i = .int .i64 k ∧ RNewL w wr A n c k v) (fun i _ => s - (intOf i).toNat)
  case atStart => exact ⟨0, _, by omega, rfl, HP0.out⟩
  case round =>
    clear HP0 HRow
    obtain ⟨k, v, hk, rfl, hP⟩ := hrel
    have hc := hP.ho.cell
    have hz := hP.ho.frozen
    have hbl := hP.ho.lt
    have hbs := hP.hs
    have HP := Lib.hid hP
    by_cases hlt : k < s
    · have Hn3 : Hid (k + 1 ≤ 1000000) := by show _ ≤ _; omega
      have hown := hP.hp
      obtain ⟨Av, cv, rfl, hRv, hcv, hcv9⟩ := own_shape hown
      have Hown := Lib.hid hown
      clear hown hRv hP
      go_wp2_with (first
          | (at_builtin; refine append1 rfl (.tmp 22) (.tmp 24) 115 rfl (w.heap.size + 2) 119 i0 _ 2 16 Try.underlying115 HI.out HZ0.out HZ1.out HZ2.out rfl (by decide) _ k _ rfl (own_mods Hown.out ((Mods.refl (fun _ => False) _).alloc (.cells #[.int .i64 (-1), .int .i64 0] 119)) (fun _ _ => id)) _ [.int .i64 (-1), .int .i64 0] rfl (Ob.new _ 119 [.int .i64 (-1), .int .i64 0]) rfl (by simp [Value.oneCell']) Hn3.out (by decide) (by simp; omega) (fun v5 w5 hown5 hg5 hat5 => ?_); have ho5 := (HP.out.ho.alloc (.cells #[.int .i64 (-1), .int .i64 0] 119)).grown hg5 (fun kk hk he => by have := own_block Hown.out kk hk; omega); have hc5 := ho5.cell; have hz5 := ho5.frozen; obtain ⟨A5, c5, rfl, -, -, -⟩ := own_shape hown5))
      go_roundw
      case rel =>
        have hsz := hg5.size
        simp at hsz
        have hM : Mods (fun i => (Value.slice Av k cv).ownBlock = some i) wr w5 := ((Mods.refl _ wr).alloc _).grown hg5 (fun i hi => .inl hi)
        have hMs := hM.size
        have hu : Upd (w.heap.size + 1) w5 (w5.setCell ⟨w.heap.size + 1, 2, none⟩ (.slice A5 (k + 1) c5)) := (Upd.refl _ w5).set 2 _
        refine ⟨k + 1, .slice A5 (k + 1) c5, by omega, by go_num, ⟨ho5.set 2 _, ?_, ?_, ?_, by simp; omega⟩⟩
        · exact (HP.out.hd.mods hM (fun hs => by have := own_block Hown.out _ hs; omega)).upd hu (by omega)
        · have := own_upd hown5 hu (by omega)
          rw [List.replicate_succ', List.flatMap_append]
          exact this
        · exact Below.upd (Below.mods HP.out.hb hM (fun i hi => by have := own_block Hown.out i hi; omega) (by omega)) hu (by omega) (by omega)
      case measure => simp [intOf]; omega
    · have hkn : k = s := by omega
      subst hkn
      have hown := hP.hp
      obtain ⟨gp, cp, pad, rfl, hgp, hob⟩ := own_ob hown (by omega)
      have hlt0 : ∀ a, A = some a → a.block < w.heap.size := fun a ha => by
        obtain ⟨b, off, e, hl, _⟩ := HR.out.2.2 (by omega)
        rw [ha] at e; injection e with e; subst e; exact hl
      have hdone : Ob wr w.heap.size 3 ((l.map fun x => ((x, 0, 0) : Purse)).map fun p => Value.int .i64 p.2.2) := by
        have e : ((l.map fun x => ((x, 0, 0) : Purse)).map fun p => Value.int .i64 p.2.2) = List.replicate n (.int .i64 0) := by
          rw [List.map_map, ← HL.out]
          exact List.map_eq_replicate_iff.2 (fun _ _ => rfl)
        rw [e]; exact hP.hd
      have hbk : RfAt wr w.heap.size (w.heap.size + 1) w.heap.size gp cp A n c l (l.map fun x => (x, 0, 0)) (List.replicate k hold0) :=
        ⟨by have := hP.ho; rw [List.length_replicate]; exact this, HR.out.below hP.hb, hdone, ⟨pad, hob⟩, by omega, by omega, by omega, ⟨HL.out, h1, h2⟩, by rw [List.length_map, HL.out], by rw [List.length_replicate]; exact ⟨h3, h4⟩, by omega, hlt0⟩
      clear hdone
      have HB := Lib.hid hbk
      have HW := Lib.hid hP.hb
      clear hP hbk hown hob hc hz
      go_wp2_with fail
      go_ret
      exact ⟨_, _, _, _, rfl, HB.out, HW.out⟩

end Go.Proofs.Yteggpdhkpmkldaa
