import Derived.Test.YteggpdhkpmkldaaKb
namespace Go.Proofs.Yteggpdhkpmkldaa
open Go.RowKit

theorem own_ob {w : World} {base n size : Nat} {e : TypeId} {v : Value} {xs : List Value} (h : w.ownsRow base e size v n xs) (hn : 0 < n) : ∃ g cap pad, v = .slice (some ⟨g, 0, none⟩) n cap ∧ base ≤ g ∧ Ob w g e (xs ++ pad) := by
  rcases h.2 with ⟨_, h2⟩ | ⟨g, cap, cur, rfl, hb, hh, _, _, _, ht⟩
  · omega
  · exact ⟨g, cap, cur.toList.drop (n * size), rfl, hb, by unfold Ob; rw [← ht, List.take_append_drop]; simpa using hh⟩
theorem madeCells_flat {α : Type} (f : α → List Value) (x : α) (sz : Nat) (hs : (f x).length = sz) (h0 : 0 < sz) (n : Nat) : madeCells (f x).toArray (n * sz) = ((List.replicate n x).flatMap f).toArray := by
  have hlen : ∀ n : Nat, ((List.replicate n x).flatMap f).length = n * sz := by
    intro n
    induction n with
    | zero => simp
    | succ n ih => rw [List.replicate_succ, List.flatMap_cons, List.length_append, ih, hs, Nat.succ_mul]; omega
  have hget : ∀ n i : Nat, i < n * sz → ((List.replicate n x).flatMap f)[i]? = (f x)[i % sz]? := by
    intro n
    induction n with
    | zero => intro i hi; simp at hi
    | succ n ih =>
      intro i hi
      rw [List.replicate_succ, List.flatMap_cons]
      by_cases hlt : i < sz
      · rw [List.getElem?_append_left (by omega), Nat.mod_eq_of_lt hlt]
      · rw [List.getElem?_append_right (by omega), ih _ (by rw [hs]; rw [Nat.succ_mul] at hi; omega), hs, Nat.mod_eq_sub_mod (by omega : sz ≤ i)]
  apply Array.ext
  · simp [madeCells, hlen]
  · intro i h1 h2
    have hi : i < n * sz := by simpa [madeCells] using h1
    have hm : i % sz < (f x).length := by rw [hs]; exact Nat.mod_lt _ h0
    have e1 := hget n i hi
    rw [List.getElem?_eq_getElem (by rw [hlen]; exact hi), List.getElem?_eq_getElem hm] at e1
    simp only [madeCells, Array.getElem_map, Array.getElem_range, List.size_toArray, hs, List.getElem_toArray]
    rw [getElem!_pos _ _ (by simpa using hm)]
    simpa using (Option.some.inj e1).symm

theorem info112 : (Try.prog.info? 112).map (fun i => (i.zero, i.size, i.bytes)) = some (some (.agg #[.bool false, .int .i64 0, .int .i64 0]), 3, 24) := by kernel_rfl
theorem info109 : (Try.prog.info? 109).map (fun i => (i.zero, i.size, i.bytes)) = some (some (.agg #[.int .i64 0, .int .i64 0, .int .i64 0]), 3, 24) := by kernel_rfl

set_option maxHeartbeats 400000 in
theorem kNew_bad (w : World) (A : Option Addr) (n c : Nat) (s : Int) (h9 : n ≤ 9223372036854775807) (h : n < 1 ∨ 16 < n ∨ s < 1 ∨ 64 < s) :
    Calls Try.prog 24 #[.slice A n c, .int .i64 s] w fun e w' => e = .returned (.tuple #[.pointer none, .int .i64 2]) ∧ w = w' := by
  by_cases h1 : (decide ((1 : Int) ≤ n) && decide ((n : Int) ≤ 16)) = true
  · have h2 : (decide ((1 : Int) ≤ s) && decide (s ≤ 64)) = false := by simp at *; omega
    have H1 := Lib.hid h1
    have H2 := Lib.hid h2
    clear h h1 h2
    go_enter Try.func24, Try.ntmps24
    go_wp2_with (go_at_call 55; refine (kWithin _ _ _ _).mono ?_; rintro e w' ⟨rfl, rfl⟩; first | rw [H1.out] | rw [H2.out])
    go_ret2
    exact ⟨rfl, rfl⟩
  · have h1 : (decide ((1 : Int) ≤ n) && decide ((n : Int) ≤ 16)) = false := by simpa using h1
    have H1 := Lib.hid h1
    clear h h1
    go_enter Try.func24, Try.ntmps24
    go_wp2_with (go_at_call 55; refine (kWithin _ _ _ _).mono ?_; rintro e w' ⟨rfl, rfl⟩; rw [H1.out])
    go_ret2
    exact ⟨rfl, rfl⟩

def inLim (x : Int) : Bool := decide (0 ≤ x) && decide (x ≤ 4611686018427387904)
theorem all_take_succ {l : List Int} {k : Nat} {x : Int} (f : Int → Bool) (h : (l.take k).all f = true) (hx : l[k]? = some x) (hf : f x = true) : (l.take (k + 1)).all f = true := by
  rw [List.take_add_one, hx, List.all_append, h]
  simp [hf]
theorem all_false {l : List Int} {k : Nat} {x : Int} (f : Int → Bool) (hx : l[k]? = some x) (hf : f x = false) : l.all f = false := by
  rw [List.all_eq_false]
  exact ⟨x, List.mem_of_getElem? hx, by simp [hf]⟩
/-- New's loop at round k. -/
structure NewL (w wr : World) (l : List Int) (s : Nat) (k : Nat) (v : Value) : Prop where
  ho : Ob wr (w.heap.size + 1) 73 [v, .slice (some ⟨w.heap.size, 0, none⟩) s s]
  hh : Ob wr w.heap.size 112 ((List.replicate s hold0).flatMap hc)
  hp : wr.ownsRow (w.heap.size + 2) 109 3 v k (((l.take k).map fun x => (x, 0, 0)).flatMap pc)
  ha : (l.take k).all inLim = true
  hb : Below w.heap.size w wr
  hs : w.heap.size + 2 ≤ wr.heap.size
/-- New: a limit that may not be, or a book. -/
def NewP (w : World) (l : List Int) (s : Nat) (e : Ending) (w' : World) : Prop :=
  Below w.heap.size w w' ∧ ((l.all inLim = false ∧ e = .returned (.tuple #[.pointer none, .int .i64 2])) ∨
    (l.all inLim = true ∧ ∃ b gp gh cp, e = .returned (.tuple #[.pointer (some ⟨b, 0, none⟩), .int .i64 0]) ∧ BkAt w' b gp gh cp (l.map fun x => (x, 0, 0)) (List.replicate s hold0) ∧ w.heap.size ≤ b ∧ w.heap.size ≤ gp ∧ w.heap.size ≤ gh))

set_option maxHeartbeats 2000000 in
set_option maxRecDepth 100000 in
theorem kNew_in (w : World) (A : Option Addr) (n c s : Nat) (l : List Int) (hr : Rd w A n 1 (l.map (Value.int .i64))) (hl : l.length = n) (h1 : 1 ≤ n) (h2 : n ≤ 16) (h3 : 1 ≤ s) (h4 : s ≤ 64) :
    Calls Try.prog 24 #[.slice A n c, .int .i64 s] w fun e w' => NewP w l s e w' := by
  obtain ⟨i0, hi0, hz0, hz1, hz2⟩ := info_parts info109
  have HI := Lib.hid hi0
  have HZ0 := Lib.hid hz0
  have HZ1 := Lib.hid hz1
  have HZ2 := Lib.hid hz2
  clear hi0 hz0 hz1 hz2
  obtain ⟨i0', hi0, hz0, hz1, hz2⟩ := info_parts info112
  have hmk : ∀ W : World, (Instr.makeSlice 71 (.int .i64 (s : Int)) (.int .i64 (s : Int))).run Try.prog W = .ok (.slice (some ⟨W.heap.size, 0, none⟩) s s) (W.alloc (.cells ((List.replicate s hold0).flatMap hc).toArray 112)) := fun W => by
    have hr := run_make (P := Try.prog) W 71 112 i0' (.agg #[.bool false, .int .i64 0, .int .i64 0]) Try.underlying71 hi0 hz0 .i64 .i64 s s (by omega) (by omega) (by rw [hz2]; omega) (by omega)
    simp only [Int.toNat_natCast] at hr
    rw [hr, hz1, ← madeCells_flat hc hold0 3 rfl (by decide) s]
    rfl
  clear hi0 hz0 hz1 hz2
  have HR := Lib.hid hr
  have HL := Lib.hid hl
  clear hr hl
  have e1 : (decide ((1 : Int) ≤ n) && decide ((n : Int) ≤ 16)) = true := by simp; omega
  have e2 : (decide ((1 : Int) ≤ s) && decide ((s : Int) ≤ 64)) = true := by simp; omega
  have E1 := Lib.hid e1
  have E2 := Lib.hid e2
  clear e1 e2
  generalize hrow : ((List.replicate s hold0).flatMap hc).toArray = row at hmk
  have HRow := Lib.hid hrow
  clear hrow
  go_enter Try.func24, Try.ntmps24
  go_wp2_with (go_at_call 55; refine (kWithin _ _ _ _).mono ?_; rintro e w' ⟨rfl, rfl⟩; first | rw [E1.out] | rw [E2.out])
  have hP : NewL w ((w.alloc (.cells row 112)).alloc (.cells #[.slice none 0 0, .slice (some ⟨w.heap.size, 0, none⟩) s s] 73)) l s 0 (.slice none 0 0) := ⟨Ob.new2 w _ _ _, by rw [← HRow.out]; exact (Ob.new w _ _).alloc _, own_nil _ _ _ _, rfl, ((Below.refl _ w).alloc (Nat.le_refl _) _).alloc (by simp) _, by simp⟩
  have HP0 := Lib.hid hP
  clear hP
  go_loopw [24] (fun i wr => ∃ (k : Nat) (v : Value), k ≤ n ∧ i = .int .i64 k ∧ NewL w wr l s k v) (fun i _ => n - (intOf i).toNat)
  case atStart => exact ⟨0, _, by omega, rfl, HP0.out⟩
  case round =>
    clear HP0 HRow
    obtain ⟨k, v, hk, rfl, hP⟩ := hrel
    have hc := hP.ho.cell
    have hz := hP.ho.frozen
    have hbl := hP.ho.lt
    have hbs := hP.hs
    by_cases hlt : k < n
    · obtain ⟨x, hx⟩ : ∃ x, l[k]? = some x := ⟨_, List.getElem?_eq_getElem (by have := HL.out; omega)⟩
      obtain ⟨g, off, hA, hbl2, hcell⟩ := HR.out.2.2 (by omega)
      subst hA
      have a0 := (hP.hb.cell (p := ⟨g, off + k, none⟩) hbl2).trans (hcell k (.int .i64 x) (by rw [List.getElem?_map, hx]; rfl))
      have Hx := Lib.hid hx
      have HP := Lib.hid hP
      clear hx hcell hP
      cases hin : inLim x with
      | false =>
        have hw : (decide (0 ≤ x) && decide (x ≤ 4611686018427387904)) = false := hin
        have Hin := Lib.hid hin
        have Hw := Lib.hid hw
        clear hin hw
        go_wp2_with (go_at_call 55; refine (kWithin _ _ _ _).mono ?_; rintro e w' ⟨rfl, rfl⟩; rw [Hw.out])
        go_ret2
        exact ⟨HP.out.hb, .inl ⟨all_false _ Hx.out Hin.out, rfl⟩⟩
      | true =>
        have hw : (decide (0 ≤ x) && decide (x ≤ 4611686018427387904)) = true := hin
        have Hin := Lib.hid hin
        have Hw := Lib.hid hw
        clear hin hw
        have Hn3 : Hid (k + 1 ≤ 1000000) := by show _ ≤ _; omega
        have hown := HP.out.hp
        obtain ⟨Av, cv, rfl, hRv, hcv, hcv9⟩ := own_shape hown
        have Hown := Lib.hid hown
        clear hown hRv
        go_wp2_with (first
          | (go_at_call 55; refine (kWithin _ _ _ _).mono ?_; rintro e w' ⟨rfl, rfl⟩; rw [Hw.out])
          | (at_builtin; refine append1 rfl (.tmp 35) (.tmp 38) 70 rfl (w.heap.size + 2) 109 i0 _ 3 24 Try.underlying70 HI.out HZ0.out HZ1.out HZ2.out rfl (by decide) _ k _ rfl (own_mods Hown.out ((Mods.refl (fun _ => False) _).alloc (.cells #[.int .i64 x, .int .i64 0, .int .i64 0] 109)) (fun _ _ => id)) _ [.int .i64 x, .int .i64 0, .int .i64 0] rfl (Ob.new _ 109 [.int .i64 x, .int .i64 0, .int .i64 0]) rfl (by simp [Value.oneCell']) Hn3.out (by decide) (by simp; omega) (fun v5 w5 hown5 hg5 hat5 => ?_); have ho5 := (HP.out.ho.alloc (.cells #[.int .i64 x, .int .i64 0, .int .i64 0] 109)).grown hg5 (fun kk hk he => by have := own_block Hown.out kk hk; omega); have hc5 := ho5.cell; have hz5 := ho5.frozen; obtain ⟨A5, c5, rfl, -, -, -⟩ := own_shape hown5))
        go_roundw
        case rel =>
          have hsz := hg5.size
          simp at hsz
          have hM : Mods (fun i => (Value.slice Av k cv).ownBlock = some i) wr w5 := ((Mods.refl _ wr).alloc _).grown hg5 (fun i hi => .inl hi)
          have hMs := hM.size
          have hu : Upd (w.heap.size + 1) w5 (w5.setCell ⟨w.heap.size + 1, 0, none⟩ (.slice A5 (k + 1) c5)) := (Upd.refl _ w5).set 0 _
          refine ⟨k + 1, .slice A5 (k + 1) c5, by omega, by go_num, ⟨ho5.set 0 _, ?_, ?_, all_take_succ _ HP.out.ha Hx.out Hin.out, ?_, by simp; omega⟩⟩
          · exact (HP.out.hh.mods hM (fun hs => by have := own_block Hown.out _ hs; omega)).upd hu (by omega)
          · have := own_upd hown5 hu (by omega)
            rw [List.take_add_one, Hx.out, List.map_append, List.flatMap_append]
            exact this
          · exact Below.upd (Below.mods HP.out.hb hM (fun i hi => by have := own_block Hown.out i hi; omega) (by omega)) hu (by omega) (by omega)
        case measure => simp [intOf]; omega
    · have hkn : k = n := by omega
      subst hkn
      have htk : l.take k = l := List.take_of_length_le (by rw [HL.out]; exact Nat.le_refl _)
      have hall := hP.ha
      have hown := hP.hp
      rw [htk] at hall hown
      obtain ⟨gp, cp, pad, rfl, hgp, hob⟩ := own_ob hown (by omega)
      have hbk : BkAt wr (w.heap.size + 1) gp w.heap.size cp (l.map fun x => (x, 0, 0)) (List.replicate s hold0) := ⟨by have := hP.ho; rw [List.length_map, HL.out, List.length_replicate]; exact this, ⟨pad, hob⟩, hP.hh, by omega, by omega, by omega, by rw [List.length_map, HL.out]; exact ⟨h1, h2⟩, by rw [List.length_replicate]; exact ⟨h3, h4⟩⟩
      have HB := Lib.hid hbk
      have HA := Lib.hid hall
      have HW := Lib.hid hP.hb
      clear hP hbk hall htk hown hob hc hz
      go_wp2_with fail
      go_ret2
      exact ⟨HW.out, .inr ⟨HA.out, _, _, _, _, rfl, HB.out, by omega, by omega, by omega⟩⟩

end Go.Proofs.Yteggpdhkpmkldaa
