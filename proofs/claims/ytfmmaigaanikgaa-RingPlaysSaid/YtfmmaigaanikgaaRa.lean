import Derived.Test.YtfmmaigaanikgaaBw
import Derived.Laws.MakeOwn
import Derived.Deep.RegionHeld3
import Derived.Deep.DeepCutAuto
namespace Go.Proofs.Ytfmmaigaanikgaa
open Go.RowKit

theorem modR {f i R : Nat} (hf : f < R) (hi : i < R) : (f + i) % R = if f + i < R then f + i else f + i - R := by
  split
  · exact Nat.mod_eq_of_lt ‹_›
  · rw [Nat.mod_eq_sub_mod (by omega), Nat.mod_eq_of_lt (by omega)]
theorem mod_ne {f i s R : Nat} (hf : f < R) (hi : i < s) (hs : s < R) : (f + i) % R ≠ (f + s) % R := by
  rw [modR hf (by omega), modR hf hs]
  split <;> split <;> omega

theorem madeCells_one (v : Value) (n : Nat) : madeCells #[v] n = (List.replicate n v).toArray := by
  apply Array.ext
  · simp [madeCells]
  · intro i h1 h2
    simp [madeCells, Nat.mod_one]

/-- A ring: its object at b, its row at g; what is in it, the first one first. -/
structure RSAt (w : World) (b g R : Nat) (first : Nat) (xs arr : List ByteArray) : Prop where
  ho : Ob w b 94 [.slice (some ⟨g, 0, none⟩) R R, .int .i64 first, .int .i64 xs.length]
  hg : Ob w g 9 (arr.map (Value.string))
  hl : arr.length = R
  hR : 1 ≤ R ∧ R ≤ 1024
  hf : first < R
  hx : xs.length ≤ R
  hat : ∀ i x, xs[i]? = some x → arr[(first + i) % R]? = some x
  hne : b ≠ g
theorem RSAt.drewN {w : World} {b g R first : Nat} {xs arr : List ByteArray} (h : RSAt w b g R first xs arr) (k : Nat) : RSAt (w.drewN k) b g R first xs arr := ⟨h.1, h.2, h.3, h.4, h.5, h.6, h.7, h.8⟩
theorem RSAt.mods {w w' : World} {b g R first : Nat} {xs arr : List ByteArray} {S : Nat → Prop} (h : RSAt w b g R first xs arr) (hm : Mods S w w') (hb : ¬ S b) (hg : ¬ S g) : RSAt w' b g R first xs arr := ⟨h.1.mods hm hb, h.2.mods hm hg, h.3, h.4, h.5, h.6, h.7, h.8⟩

set_option maxHeartbeats 400000 in
theorem RSIs_nil (w : World) : Calls Try.prog 58 #[.pointer none] w fun e w' => e = .returned (.bool false) ∧ w = w' := by
  go_enter Try.func58, Try.ntmps58
  go_wp2
  go_ret
  exact ⟨rfl, rfl⟩
set_option maxHeartbeats 400000 in
theorem RSIs_none (w : World) (b : Nat) (h : w.cell? ⟨b, 0, none⟩ = some (.slice none 0 0)) : Calls Try.prog 58 #[.pointer (some ⟨b, 0, none⟩)] w fun e w' => e = .returned (.bool false) ∧ w = w' := by
  go_enter Try.func58, Try.ntmps58
  go_wp2
  go_ret
  exact ⟨rfl, rfl⟩
set_option maxHeartbeats 400000 in
theorem RSIs_some (w : World) (b g R : Nat) (h : w.cell? ⟨b, 0, none⟩ = some (.slice (some ⟨g, 0, none⟩) R R)) (hR : 1 ≤ R) : Calls Try.prog 58 #[.pointer (some ⟨b, 0, none⟩)] w fun e w' => e = .returned (.bool true) ∧ w = w' := by
  have hp : decide ((0 : Int) < R) = true := by simp; omega
  go_enter Try.func58, Try.ntmps58
  go_wp2
  go_ret
  exact ⟨by simp; omega, rfl⟩

set_option maxHeartbeats 400000 in
theorem RSAt_any (w : World) (b g R first s i : Nat) (hc : ∀ j, w.cell? ⟨b, j, none⟩ = [.slice (some ⟨g, 0, none⟩) R R, .int .i64 first, .int .i64 s][j]?) (hR : 1 ≤ R ∧ R ≤ 1024) (hf : first < R) (hi : i ≤ 1024) (m : Nat) (hm : (first + i) % R = m) :
    Calls Try.prog 59 #[.pointer (some ⟨b, 0, none⟩), .int .i64 i] w fun e w' => e = .returned (.int .i64 m) ∧ ∃ k, w' = w.drewN k := by
  obtain ⟨h1, h2⟩ := hR
  have hw : IntKind.i64.wrap ((first : Int) + i) = ((first + i : Nat) : Int) := by rw [IntWalk.i64_in _ (by omega)]; omega
  have hz : ((R : Int) == 0) = false := by simp; omega
  go_enter Try.func59, Try.ntmps59
  go_wp2
  go_quiet (fail)
  go_wp2
  go_ret
  exact ⟨ret_int (by rw [← hm]; simp), _, rfl⟩

set_option maxHeartbeats 400000 in
set_option maxRecDepth 100000 in
theorem RSPush_ok (w : World) (b g R first : Nat) (xs arr : List ByteArray) (x : ByteArray) (h : RSAt w b g R first xs arr) (hlt : xs.length < R) :
    Calls Try.prog 34 #[.pointer (some ⟨b, 0, none⟩), Value.string x] w fun e w' => e = .returned (.int .i64 0) ∧ ∃ arr', RSAt w' b g R first (xs ++ [x]) arr' ∧ Mods (fun k => k = b ∨ k = g) w w' := by
  have hc := h.ho.cell
  have hR := h.hR
  have hR1 := hR.1
  have hR2 := hR.2
  have hbl := h.ho.lt
  have hgl := h.hg.lt
  have hne := h.hne
  have hf := h.hf
  have HH := Lib.hid h
  clear h
  generalize hs : xs.length = s at *
  have HS := Lib.hid hs
  clear hs
  have hq : ((s : Int) == (R : Int)) = false := by simp; omega
  go_enter Try.func34, Try.ntmps34
  go_wp2_with (go_at_call 58; refine (RSIs_some _ b g R (hc 0) hR1).mono ?_; rintro e w' ⟨rfl, rfl⟩)
  go_quiet (fail)
  go_wp2_with fail
  refine cutW (fun W => Ob W b 94 [.slice (some ⟨g, 0, none⟩) R R, .int .i64 first, .int .i64 s] ∧ Ob W g 9 (arr.map (Value.string)) ∧ Mods (fun k => k = b ∨ k = g) w W) ⟨by have := HH.out.ho; rw [HS.out] at this; exact this, HH.out.hg, (Mods.refl _ w).drewN _⟩ ?_
  clear hc hbl hgl
  rintro W ⟨ho, hg, hM⟩
  have hc := ho.cell
  have hc0 := hc 0
  have hc2 := hc 2
  obtain ⟨m, hm⟩ : ∃ m, (first + s) % R = m := ⟨_, rfl⟩
  have hmR : m < R := by rw [← hm]; exact Nat.mod_lt _ (by omega)
  have Hm := Lib.hid hm
  clear hm
  obtain ⟨y, hy⟩ : ∃ y, arr[m]? = some y := ⟨_, List.getElem?_eq_getElem (by have := HH.out.hl; omega)⟩
  have hgc : W.cell? ⟨g, m, none⟩ = some (Value.string y) := (hg.cell m).trans (by rw [List.getElem?_map, hy]; rfl)
  have hgz := hg.frozen m
  clear hy
  go_region_held3 (fun w' => w'.cell? ⟨b, 0, none⟩ = some (.slice (some ⟨g, 0, none⟩) R R) ∧ w'.cell? ⟨b, 2, none⟩ = some (.int .i64 s)) (first | exact ⟨hc0, hc2⟩ | exact ⟨(World.cell?_setCell_other _ _ _ _ (fun e => hne (congrArg Addr.block e).symm)).trans hc0, (World.cell?_setCell_other _ _ _ _ (fun e => hne (congrArg Addr.block e).symm)).trans hc2⟩)
    (first
      | (go_at_call 59; refine (RSAt_any _ b g R first s s (by exact hc) ⟨hR1, hR2⟩ hf (by omega) m Hm.out).mono ?_; rintro e w' ⟨rfl, k, rfl⟩))
  go_upto_region 6 with (fail)
  refine cutW (fun W => Ob W b 94 [.slice (some ⟨g, 0, none⟩) R R, .int .i64 first, .int .i64 s] ∧ Ob W g 9 ((arr.set m x).map (Value.string)) ∧ Mods (fun k => k = b ∨ k = g) w W) ⟨?_, ?_, ?_⟩ ?_
  · exact (ho.drewN _).upd (Upd.set (Upd.refl g _) m _) hne
  · rw [List.map_set]; exact (hg.drewN _).set m _
  · exact (hM.drewN _).setCell _ (.inl (.inr rfl)) _
  clear hc hc0 hc2 hgc hgz ho hg hM
  rintro W2 ⟨ho, hg, hM⟩
  have hc := ho.cell
  have hz := ho.frozen
  go_wp2
  go_ret
  refine ⟨rfl, arr.set m x, ⟨?_, hg.upd (Upd.set (Upd.refl b _) 2 _) hne.symm, by simp [HH.out.hl], hR, hf, by simp [HS.out]; omega, ?_, hne⟩, hM.setCell _ (.inl (.inl rfl)) _⟩
  · have := ho.set 2 (.int .i64 ((s : Int) + 1))
    simpa [HS.out] using this
  · intro i y hy
    rcases Nat.lt_trichotomy i s with hi | hi | hi
    · rw [List.getElem?_append_left (by rw [HS.out]; exact hi)] at hy
      rw [List.getElem?_set_ne (by rw [← Hm.out]; exact (mod_ne hf hi hlt).symm)]
      exact HH.out.hat i y hy
    · subst hi
      rw [List.getElem?_append_right (by rw [HS.out]; exact Nat.le_refl _), HS.out, Nat.sub_self] at hy
      simp at hy
      subst hy
      rw [Hm.out, List.getElem?_set_self (by have := HH.out.hl; omega)]
    · rw [List.getElem?_eq_none (by simp [HS.out]; omega)] at hy
      cases hy

set_option maxHeartbeats 400000 in
set_option maxRecDepth 100000 in
theorem RSPush_full (w : World) (b g R first : Nat) (xs arr : List ByteArray) (x : ByteArray) (h : RSAt w b g R first xs arr) (hlt : xs.length = R) :
    Calls Try.prog 34 #[.pointer (some ⟨b, 0, none⟩), Value.string x] w fun e w' => e = .returned (.int .i64 40) ∧ ∃ k, w' = w.drewN k := by
  have hc := h.ho.cell
  have hR1 := h.hR.1
  clear h
  rw [hlt] at hc
  clear hlt
  go_enter Try.func34, Try.ntmps34
  go_wp2_with (go_at_call 58; refine (RSIs_some _ b g R (hc 0) hR1).mono ?_; rintro e w' ⟨rfl, rfl⟩)
  go_quiet (fail)
  go_wp2_with fail
  go_ret
  exact ⟨rfl, _, rfl⟩

set_option maxHeartbeats 400000 in
theorem RSLen_any (w : World) (b g R first : Nat) (xs arr : List ByteArray) (h : RSAt w b g R first xs arr) :
    Calls Try.prog 37 #[.pointer (some ⟨b, 0, none⟩)] w fun e w' => e = .returned (.int .i64 xs.length) ∧ w = w' := by
  have hc := h.ho.cell
  have hR1 := h.hR.1
  clear h
  go_enter Try.func37, Try.ntmps37
  go_wp2_with (go_at_call 58; refine (RSIs_some _ b g R (hc 0) hR1).mono ?_; rintro e w' ⟨rfl, rfl⟩)
  go_ret
  exact ⟨rfl, rfl⟩

set_option maxHeartbeats 400000 in
theorem RSRoom_any (w : World) (b g R first : Nat) (xs arr : List ByteArray) (h : RSAt w b g R first xs arr) :
    Calls Try.prog 35 #[.pointer (some ⟨b, 0, none⟩)] w fun e w' => e = .returned (.int .i64 ((R : Int) - xs.length)) ∧ ∃ k, w' = w.drewN k := by
  have hc := h.ho.cell
  have hR1 := h.hR.1
  have hR2 := h.hR.2
  have hx := h.hx
  clear h
  generalize xs.length = s at *
  have hw : IntKind.i64.wrap ((R : Int) - s) = (R : Int) - s := by rw [IntWalk.i64_in _ (by omega)]
  go_enter Try.func35, Try.ntmps35
  go_wp2_with (go_at_call 58; refine (RSIs_some _ b g R (hc 0) hR1).mono ?_; rintro e w' ⟨rfl, rfl⟩)
  go_quiet (fail)
  go_wp2_with fail
  go_ret
  exact ⟨rfl, _, rfl⟩

set_option maxHeartbeats 400000 in
set_option maxRecDepth 100000 in
theorem RSPeek_empty (w : World) (b g R first : Nat) (arr : List ByteArray) (h : RSAt w b g R first [] arr) :
    Calls Try.prog 60 #[.pointer (some ⟨b, 0, none⟩)] w fun e w' => e = .returned (.tuple #[.string ⟨#[]⟩, .int .i64 50]) ∧ w = w' := by
  have hc := h.ho.cell
  have hR1 := h.hR.1
  clear h
  go_enter Try.func60, Try.ntmps60
  go_wp2_with (go_at_call 58; refine (RSIs_some _ b g R (hc 0) hR1).mono ?_; rintro e w' ⟨rfl, rfl⟩)
  go_ret2
  exact ⟨rfl, rfl⟩

set_option maxHeartbeats 400000 in
set_option maxRecDepth 100000 in
theorem RSPeek_some (w : World) (b g R first : Nat) (x : ByteArray) (xs arr : List ByteArray) (h : RSAt w b g R first (x :: xs) arr) :
    Calls Try.prog 60 #[.pointer (some ⟨b, 0, none⟩)] w fun e w' => e = .returned (.tuple #[(Value.string x), .int .i64 0]) ∧ ∃ k, w' = w.drewN k := by
  have hc := h.ho.cell
  have hR1 := h.hR.1
  have hR2 := h.hR.2
  have hf := h.hf
  have h0 := h.hat 0 x rfl
  rw [Nat.add_zero, Nat.mod_eq_of_lt hf] at h0
  have hg : w.cell? ⟨g, first, none⟩ = some (Value.string x) := (h.hg.cell first).trans (by rw [List.getElem?_map, h0]; rfl)
  have hs : (((x :: xs).length : Int) == 0) = false := by simp; omega
  have hfi : (0 : Int) ≤ first := by omega
  clear h h0
  generalize (x :: xs).length = s at *
  go_enter Try.func60, Try.ntmps60
  go_wp2_with (go_at_call 58; refine (RSIs_some _ b g R (hc 0) hR1).mono ?_; rintro e w' ⟨rfl, rfl⟩)
  go_quiet (fail)
  go_wp2_with fail
  go_ret2
  exact ⟨rfl, _, rfl⟩

set_option maxHeartbeats 400000 in
set_option maxRecDepth 100000 in
theorem RSPop_empty (w : World) (b g R first : Nat) (arr : List ByteArray) (h : RSAt w b g R first [] arr) :
    Calls Try.prog 36 #[.pointer (some ⟨b, 0, none⟩)] w fun e w' => e = .returned (.tuple #[.string ⟨#[]⟩, .int .i64 50]) ∧ w = w' := by
  go_enter Try.func36, Try.ntmps36
  go_wp2_with (go_at_call 60; refine (RSPeek_empty _ b g R first arr h).mono ?_; rintro e w' ⟨rfl, rfl⟩)
  go_ret2
  exact ⟨rfl, rfl⟩

set_option maxHeartbeats 400000 in
set_option maxRecDepth 100000 in
theorem RSPop_some (w : World) (b g R first : Nat) (x : ByteArray) (xs arr : List ByteArray) (h : RSAt w b g R first (x :: xs) arr) :
    Calls Try.prog 36 #[.pointer (some ⟨b, 0, none⟩)] w fun e w' => e = .returned (.tuple #[(Value.string x), .int .i64 0]) ∧ ∃ first' arr', RSAt w' b g R first' xs arr' ∧ Mods (fun k => k = b ∨ k = g) w w' := by
  have hR := h.hR
  have hR1 := hR.1
  have hR2 := hR.2
  have hf := h.hf
  have hne := h.hne
  have hx := h.hx
  have hsl : (x :: xs).length = xs.length + 1 := rfl
  have HH := Lib.hid h
  clear h
  generalize hs : xs.length = s at *
  have HS := Lib.hid hs
  clear hs
  go_enter Try.func36, Try.ntmps36
  go_wp2_with fail
  refine (RSPeek_some w b g R first x xs arr HH.out).mono ?_
  rintro e w1 ⟨rfl, k, rfl⟩
  go_upto_region 5 with (fail)
  refine cutW (fun W => Ob W b 94 [.slice (some ⟨g, 0, none⟩) R R, .int .i64 first, .int .i64 ((s : Int) + 1)] ∧ Ob W g 9 (arr.map (Value.string)) ∧ Mods (fun k => k = b ∨ k = g) w W) ⟨by have := HH.out.ho; rw [hsl] at this; exact this, HH.out.hg, (Mods.refl _ w).drewN _⟩ ?_
  rintro W ⟨ho, hg, hM⟩
  have hc := ho.cell
  have hbl := ho.lt
  have hgl := hg.lt
  obtain ⟨y, hy⟩ : ∃ y, arr[first]? = some y := ⟨_, List.getElem?_eq_getElem (by have := HH.out.hl; omega)⟩
  have hgc : W.cell? ⟨g, first, none⟩ = some (Value.string y) := (hg.cell first).trans (by rw [List.getElem?_map, hy]; rfl)
  have hgz := hg.frozen first
  clear hy hsl hx
  have hs9 : s ≤ 1024 := by have := HH.out.hx; simp [HS.out] at this; omega
  refine wp_region_tail 10 (by kernel_rfl) (by kernel_rfl) ?_
  simp only [List.take_succ_cons, List.take_zero, List.drop_succ_cons, List.drop_zero]
  repeat (go_big_quiet_step (fail))
  refine wpQuiet_nil ?_
  go_upto_region 6 with (fail)
  refine cutW (fun W => Ob W b 94 [.slice (some ⟨g, 0, none⟩) R R, .int .i64 first, .int .i64 ((s : Int) + 1)] ∧ Ob W g 9 ((arr.set first ByteArray.empty).map (Value.string)) ∧ Mods (fun k => k = b ∨ k = g) w W) ⟨?_, ?_, ?_⟩ ?_
  · exact (ho.drew).upd (Upd.set (Upd.refl g _) first _) hne
  · rw [List.map_set]; exact (hg.drew).set first _
  · exact (hM.drew).setCell _ (.inl (.inr rfl)) _
  clear hc hgc hgz ho hg hM hbl hgl
  rintro W2 ⟨ho, hg, hM⟩
  have hcA : ∀ j, W2.cell? ⟨b, j, none⟩ = [.slice (some ⟨g, 0, none⟩) R R, .int .i64 first, .int .i64 ((s + 1 : Nat) : Int)][j]? := ho.cell
  obtain ⟨m, hm⟩ : ∃ m, (first + 1) % R = m := ⟨_, rfl⟩
  have Hm := Lib.hid hm
  have HcA := Lib.hid hcA
  clear hm hcA
  go_wp2_with fail
  refine (RSAt_any W2 b g R first (s + 1) 1 HcA.out hR hf (by omega) m Hm.out).mono ?_
  rintro e w1 ⟨rfl, k2, rfl⟩
  have hc := (ho.drewN k2).cell
  have hz := (ho.drewN k2).frozen
  go_wp2_with fail
  go_ret2
  refine ⟨rfl, m, arr.set first ByteArray.empty, ⟨?_, (hg.drewN k2).upd (((Upd.refl b _).set 1 _).set 2 _) hne.symm, by simp [HH.out.hl], hR, by rw [← Hm.out]; exact Nat.mod_lt _ (by omega), by rw [HS.out]; have := HH.out.hx; simp [HS.out] at this; omega, ?_, hne⟩, ((hM.drewN k2).setCell ⟨b, 1, none⟩ (.inl (.inl rfl)) _).setCell ⟨b, 2, none⟩ (.inl (.inl rfl)) _⟩
  · have := ((ho.drewN k2).set 1 (.int .i64 m)).set 2 (.int .i64 s)
    simpa [HS.out] using this
  · intro i y hy
    have hil : i < xs.length := (List.getElem?_eq_some_iff.1 hy).1
    have h1 := HH.out.hat (i + 1) y (by simpa using hy)
    have hxl := HH.out.hx
    simp at hxl
    have e1 : (m + i) % R = (first + (i + 1)) % R := by rw [← Hm.out, Nat.mod_add_mod]; congr 1; omega
    rw [e1, List.getElem?_set_ne (fun e => mod_ne hf (i := 0) (s := i + 1) (by omega) (by omega) (by rw [Nat.add_zero, Nat.mod_eq_of_lt hf]; exact e))]
    exact h1

theorem RSInfo : (Try.prog.info? 9).map (fun i => (i.zero, i.size, i.bytes)) = some (some (.string ⟨#[]⟩), 1, 16) := by kernel_rfl

set_option maxHeartbeats 400000 in
theorem RSNew_no (w : World) (n : Int) (h : n < 1 ∨ 1024 < n) :
    Calls Try.prog 33 #[.int .i64 n] w fun e w' => e = .returned (.tuple #[.pointer none, .int .i64 2]) ∧ w = w' := by
  by_cases h1 : n < 1
  · clear h
    go_enter Try.func33, Try.ntmps33
    go_wp2
    go_ret2
    exact ⟨rfl, rfl⟩
  · have h2 : 1024 < n := h.resolve_left h1
    clear h
    go_enter Try.func33, Try.ntmps33
    go_wp2
    go_ret2
    exact ⟨rfl, rfl⟩

set_option maxHeartbeats 400000 in
set_option maxRecDepth 100000 in
theorem RSNew_yes (w : World) (n : Nat) (h1 : 1 ≤ n) (h2 : n ≤ 1024) :
    Calls Try.prog 33 #[.int .i64 n] w fun e w' => e = .returned (.tuple #[.pointer (some ⟨w.heap.size + 1, 0, none⟩), .int .i64 0]) ∧ RSAt w' (w.heap.size + 1) w.heap.size n 0 [] (List.replicate n ByteArray.empty) ∧ Below w.heap.size w w' := by
  obtain ⟨i0, hi0, hz0, hz1, hz2⟩ := info_parts RSInfo
  have hmk : ∀ W : World, (Instr.makeSlice 53 (.int .i64 (n : Int)) (.int .i64 (n : Int))).run Try.prog W = .ok (.slice (some ⟨W.heap.size, 0, none⟩) n n) (W.alloc (.cells (List.replicate n (.string ⟨#[]⟩)).toArray 9)) := fun W => by
    have hr := run_make (P := Try.prog) W 53 9 i0 (.string ⟨#[]⟩) Try.underlying53 hi0 hz0 .i64 .i64 n n (by omega) (by omega) (by rw [hz2]; omega) (by omega)
    simp only [Int.toNat_natCast] at hr
    rw [hr, hz1, Nat.mul_one, ← madeCells_one]
    rfl
  clear hi0 hz0 hz1 hz2
  go_enter Try.func33, Try.ntmps33
  go_wp2
  go_ret2
  refine ⟨rfl, ⟨Ob.new2 w _ _ _, (Ob.new w _ _).alloc _ |> fun h => by rw [List.map_replicate]; exact h, by simp, ⟨h1, h2⟩, by omega, by simp, fun i x hx => by simp at hx, by omega⟩, ?_⟩
  exact ((Below.refl _ w).alloc (Nat.le_refl _) _).alloc (by simp) _

end Go.Proofs.Ytfmmaigaanikgaa
