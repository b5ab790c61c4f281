import Derived.Test.YteggpdhkpmkldaaJj
import Derived.Laws.MakeOwn
import Derived.Deep.DeepCutAuto
namespace Go.Proofs.Yteggpdhkpmkldaa
open Go.RowKit

/-! Ring[Order]. -/
structure Od where
  kd : Int
  sq : Int
  id : ByteArray
  sy : ByteArray
  sd : Int
  q : Int
  p : Int
def Od.cells (x : Od) : List Value := [.int .i64 x.kd, .int .i64 x.sq, .string x.id, .string x.sy, .int .i64 x.sd, .int .i64 x.q, .int .i64 x.p]
def Od.agg (x : Od) : Value := .agg #[.int .i64 x.kd, .int .i64 x.sq, .string x.id, .string x.sy, .int .i64 x.sd, .int .i64 x.q, .int .i64 x.p]
def zOd : Od := ⟨0, 0, ⟨#[]⟩, ⟨#[]⟩, 0, 0, 0⟩
theorem modR {f i R : Nat} (hf : f < R) (hi : i < R) : (f + i) % R = if f + i < R then f + i else f + i - R := by
  by_cases h : f + i < R
  · rw [if_pos h, Nat.mod_eq_of_lt h]
  · rw [if_neg h, Nat.mod_eq_sub_mod (by omega), Nat.mod_eq_of_lt (by omega)]
theorem mod_ne {f i s R : Nat} (hf : f < R) (hi : i < s) (hs : s < R) : (f + i) % R ≠ (f + s) % R := by
  rw [modR hf (by omega), modR hf hs]
  split <;> split <;> omega
theorem cell_sf7 {w : World} {a : Addr} {v : Value} (g i0 i1 i2 i3 i4 i5 i6 : Nat) (u0 u1 u2 u3 u4 u5 u6 : Value) (h : w.cell? a = some v) (hne : a.block ≠ g) :
    (((((((w.setCell ⟨g, i0, none⟩ u0).setCell ⟨g, i1, none⟩ u1).setCell ⟨g, i2, none⟩ u2).setCell ⟨g, i3, none⟩ u3).setCell ⟨g, i4, none⟩ u4).setCell ⟨g, i5, none⟩ u5).setCell ⟨g, i6, none⟩ u6).cell? a = some v :=
  cell_sf _ _ _ (cell_sf _ _ _ (cell_sf _ _ _ (cell_sf _ _ _ (cell_sf _ _ _ (cell_sf _ _ _ (cell_sf _ _ _ h hne) hne) hne) hne) hne) hne) hne
theorem dn_cell (w : World) (k : Nat) (a : Addr) : (w.drewN k).cell? a = w.cell? a := rfl
theorem dr_cell (w : World) (a : Addr) : w.drew.cell? a = w.cell? a := rfl
theorem sf_cell {c g : Nat} (h : c ≠ g) (w : World) (i j : Nat) (u : Value) : (w.setCell ⟨g, i, none⟩ u).cell? ⟨c, j, none⟩ = w.cell? ⟨c, j, none⟩ := by
  unfold World.cell?
  rw [Below.heap_setCell _ _ _ _ (by simpa using h)]
theorem flat_set7 : ∀ (l : List Od) (i : Nat) (e : Od), i < l.length → (((((((l.flatMap Od.cells).set (i * 7) (.int .i64 e.kd)).set (i * 7 + 1) (.int .i64 e.sq)).set (i * 7 + 2) (.string e.id)).set (i * 7 + 3) (.string e.sy)).set (i * 7 + 4) (.int .i64 e.sd)).set (i * 7 + 5) (.int .i64 e.q)).set (i * 7 + 6) (.int .i64 e.p) = (l.set i e).flatMap Od.cells
  | [], i, e, h => by simp at h
  | a :: r, 0, e, _ => by simp [List.flatMap_cons, Od.cells]
  | a :: r, i + 1, e, h => by
    have h5 : ∀ (t : List Value) (k : Nat) (x : Value), (a.cells ++ t).set ((i + 1) * 7 + k) x = a.cells ++ t.set (i * 7 + k) x := by
      intro t k x
      rw [List.set_append_right _ _ (by show 7 ≤ _; omega)]
      congr 2
      show (i + 1) * 7 + k - 7 = _
      omega
    have h50 := fun t x => h5 t 0 x
    simp only [Nat.add_zero] at h50
    rw [List.flatMap_cons, List.set_cons_succ, List.flatMap_cons, h50, h5, h5, h5, h5, h5, h5, flat_set7 r i e (by simpa using h)]

/-- A ring: its object at b, its row at g; what is in it, the first one first. -/
structure RoAt (w : World) (b g R : Nat) (first : Nat) (xs arr : List Od) : Prop where
  ho : Ob w b 135 [.slice (some ⟨g, 0, none⟩) R R, .int .i64 first, .int .i64 xs.length]
  hg : Ob w g 85 (arr.flatMap Od.cells)
  hl : arr.length = R
  hR : 1 ≤ R ∧ R ≤ 1024
  hf : first < R
  hx : xs.length ≤ R
  hat : ∀ i x, xs[i]? = some x → arr[(first + i) % R]? = some x
  hne : b ≠ g
theorem RoAt.drewN {w : World} {b g R first : Nat} {xs arr : List Od} (h : RoAt w b g R first xs arr) (k : Nat) : RoAt (w.drewN k) b g R first xs arr := ⟨h.1, h.2, h.3, h.4, h.5, h.6, h.7, h.8⟩
theorem RoAt.mods {w w' : World} {b g R first : Nat} {xs arr : List Od} {S : Nat → Prop} (h : RoAt w b g R first xs arr) (hm : Mods S w w') (hb : ¬ S b) (hg : ¬ S g) : RoAt w' b g R first xs arr := ⟨h.1.mods hm hb, h.2.mods hm hg, h.3, h.4, h.5, h.6, h.7, h.8⟩

set_option maxHeartbeats 400000 in
theorem roIs_nil (w : World) : Calls Try.prog 80 #[.pointer none] w fun e w' => e = .returned (.bool false) ∧ w = w' := by
  go_enter Try.func80, Try.ntmps80
  go_wp2
  go_ret
  exact ⟨rfl, rfl⟩
set_option maxHeartbeats 400000 in
theorem roIs_some (w : World) (b g R : Nat) (h : w.cell? ⟨b, 0, none⟩ = some (.slice (some ⟨g, 0, none⟩) R R)) (hR : 1 ≤ R) : Calls Try.prog 80 #[.pointer (some ⟨b, 0, none⟩)] w fun e w' => e = .returned (.bool true) ∧ w = w' := by
  have hp : decide ((0 : Int) < R) = true := by simp; omega
  go_enter Try.func80, Try.ntmps80
  go_wp2
  go_ret
  exact ⟨by simp; omega, rfl⟩
set_option maxHeartbeats 400000 in
theorem roAt_any (w : World) (b g R first s i : Nat) (hc : ∀ j, w.cell? ⟨b, j, none⟩ = [.slice (some ⟨g, 0, none⟩) R R, .int .i64 first, .int .i64 s][j]?) (hR : 1 ≤ R ∧ R ≤ 1024) (hf : first < R) (hi : i ≤ 1024) (m : Nat) (hm : (first + i) % R = m) :
    Calls Try.prog 81 #[.pointer (some ⟨b, 0, none⟩), .int .i64 i] w fun e w' => e = .returned (.int .i64 m) ∧ ∃ k, w' = w.drewN k := by
  obtain ⟨h1, h2⟩ := hR
  have hw : IntKind.i64.wrap ((first : Int) + i) = ((first + i : Nat) : Int) := by rw [IntWalk.i64_in _ (by omega)]; omega
  have hz : ((R : Int) == 0) = false := by simp; omega
  go_enter Try.func81, Try.ntmps81
  go_wp2
  go_quiet (fail)
  go_wp2
  go_ret
  exact ⟨ret_int (by rw [← hm]; simp), _, rfl⟩
set_option maxHeartbeats 400000 in
theorem roLen_any (w : World) (b g R first : Nat) (xs arr : List Od) (h : RoAt w b g R first xs arr) :
    Calls Try.prog 72 #[.pointer (some ⟨b, 0, none⟩)] w fun e w' => e = .returned (.int .i64 xs.length) ∧ w = w' := by
  have hc := h.ho.cell
  have hR := h.hR.1
  clear h
  go_enter Try.func72, Try.ntmps72
  go_wp2_with (go_at_call 80; refine (roIs_some _ b g R (hc 0) hR).mono ?_; rintro e w' ⟨rfl, rfl⟩)
  go_ret
  exact ⟨rfl, rfl⟩

set_option maxHeartbeats 1600000 in
set_option maxRecDepth 100000 in
theorem roPush_ok (w : World) (b g R first : Nat) (xs arr : List Od) (x : Od) (h : RoAt w b g R first xs arr) (hlt : xs.length < R) :
    Calls Try.prog 70 #[.pointer (some ⟨b, 0, none⟩), x.agg] w fun e w' => e = .returned (.int .i64 0) ∧ ∃ arr', RoAt w' b g R first (xs ++ [x]) arr' ∧ Mods (fun k => k = b ∨ k = g) w w' := by
  have hR := h.hR
  have hR1 := hR.1
  have hR2 := hR.2
  have hbl := h.ho.lt
  have hgl := h.hg.lt
  have hne := h.hne
  have hf := h.hf
  have HH := Lib.hid h
  clear h
  generalize hs : xs.length = s at *
  have HS := Lib.hid hs
  clear hs
  have hq : ((s : Int) == (R : Int)) = false := by simp; omega
  obtain ⟨xk, xs', xi, xy, xd, xq, xp⟩ := x
  show Calls Try.prog 70 #[.pointer (some ⟨b, 0, none⟩), .agg #[.int .i64 xk, .int .i64 xs', .string xi, .string xy, .int .i64 xd, .int .i64 xq, .int .i64 xp]] w _
  go_enter Try.func70, Try.ntmps70
  go_upto_region 1 with (fail)
  have hx0 := Ob.new w 85 [.int .i64 xk, .int .i64 xs', .string xi, .string xy, .int .i64 xd, .int .i64 xq, .int .i64 xp]
  refine cutW (fun W => Ob W b 135 [.slice (some ⟨g, 0, none⟩) R R, .int .i64 first, .int .i64 s] ∧ Ob W g 85 (arr.flatMap Od.cells) ∧ Ob W w.heap.size 85 [.int .i64 xk, .int .i64 xs', .string xi, .string xy, .int .i64 xd, .int .i64 xq, .int .i64 xp] ∧ Mods (fun k => k = b ∨ k = g) w W) ⟨by have := HH.out.ho; rw [HS.out] at this; exact this.alloc _, HH.out.hg.alloc _, hx0, (Mods.refl _ w).alloc _⟩ ?_
  clear hx0
  rintro W0 ⟨ho, hg, hx, hM⟩
  have hc := ho.cell
  have HO := Lib.hid ho
  have HG := Lib.hid hg
  have HX := Lib.hid hx
  have HM := Lib.hid hM
  clear ho hg hx hM
  go_wp2_with (go_at_call 80; refine (roIs_some _ b g R (hc 0) hR1).mono ?_; rintro e w' ⟨rfl, rfl⟩)
  go_quiet (fail)
  go_wp2_with fail
  refine cutW (fun W => Ob W b 135 [.slice (some ⟨g, 0, none⟩) R R, .int .i64 first, .int .i64 s] ∧ Ob W g 85 (arr.flatMap Od.cells) ∧ Ob W w.heap.size 85 [.int .i64 xk, .int .i64 xs', .string xi, .string xy, .int .i64 xd, .int .i64 xq, .int .i64 xp] ∧ Mods (fun k => k = b ∨ k = g) w W) ⟨HO.out.drewN _, HG.out.drewN _, HX.out.drewN _, HM.out.drewN _⟩ ?_
  clear hc HO HG HX HM
  rintro W ⟨ho, hg, hx, hM⟩
  have hc := ho.cell
  have hc0 := hc 0
  have hc2 := hc 2
  have x0 : W.cell? ⟨w.heap.size, 0, none⟩ = some (.int .i64 xk) := hx.cell 0
  have x1 : W.cell? ⟨w.heap.size, 1, none⟩ = some (.int .i64 xs') := hx.cell 1
  have x2 : W.cell? ⟨w.heap.size, 2, none⟩ = some (.string xi) := hx.cell 2
  have x3 : W.cell? ⟨w.heap.size, 3, none⟩ = some (.string xy) := hx.cell 3
  have x4 : W.cell? ⟨w.heap.size, 4, none⟩ = some (.int .i64 xd) := hx.cell 4
  have x5 : W.cell? ⟨w.heap.size, 5, none⟩ = some (.int .i64 xq) := hx.cell 5
  have x6 : W.cell? ⟨w.heap.size, 6, none⟩ = some (.int .i64 xp) := hx.cell 6
  obtain ⟨m, hm⟩ : ∃ m, (first + s) % R = m := ⟨_, rfl⟩
  have hmR : m < R := by rw [← hm]; exact Nat.mod_lt _ (by omega)
  have Hm := Lib.hid hm
  clear hm
  obtain ⟨y, hy⟩ : ∃ y, arr[m]? = some y := ⟨_, List.getElem?_eq_getElem (by have := HH.out.hl; omega)⟩
  obtain ⟨yk, ys, yi, yy, yd, yq, yp⟩ := y
  have hgc : ∀ j, j < 7 → W.cell? ⟨g, m * 7 + j, none⟩ = [Value.int .i64 yk, .int .i64 ys, .string yi, .string yy, .int .i64 yd, .int .i64 yq, .int .i64 yp][j]? := fun j hj => (hg.cell (m * 7 + j)).trans (flat_at Od.cells 7 (fun _ => rfl) arr m j _ hy hj)
  have g0 : W.cell? ⟨g, m * 7, none⟩ = some (.int .i64 yk) := hgc 0 (by omega)
  have g1 : _ = some _ := hgc 1 (by omega)
  have g2 : _ = some _ := hgc 2 (by omega)
  have g3 : _ = some _ := hgc 3 (by omega)
  have g4 : _ = some _ := hgc 4 (by omega)
  have g5 : _ = some _ := hgc 5 (by omega)
  have g6 : _ = some _ := hgc 6 (by omega)
  have hgz := hg.frozen
  have nb : b ≠ g := hne
  have nN : w.heap.size ≠ g := by omega
  have HG := Lib.hid hg
  have HO := Lib.hid ho
  have HM := Lib.hid hM
  clear hy hgc hx ho hg hM
  go_region_held3 (fun w' => w'.cell? ⟨b, 0, none⟩ = some (.slice (some ⟨g, 0, none⟩) R R) ∧ w'.cell? ⟨b, 2, none⟩ = some (.int .i64 s) ∧ w'.cell? ⟨w.heap.size, 0, none⟩ = some (.int .i64 xk) ∧ w'.cell? ⟨w.heap.size, 1, none⟩ = some (.int .i64 xs') ∧ w'.cell? ⟨w.heap.size, 2, none⟩ = some (.string xi) ∧ w'.cell? ⟨w.heap.size, 3, none⟩ = some (.string xy) ∧ w'.cell? ⟨w.heap.size, 4, none⟩ = some (.int .i64 xd) ∧ w'.cell? ⟨w.heap.size, 5, none⟩ = some (.int .i64 xq) ∧ w'.cell? ⟨w.heap.size, 6, none⟩ = some (.int .i64 xp))
    (refine ⟨?_, ?_, ?_, ?_, ?_, ?_, ?_, ?_, ?_⟩ <;> (try simp only [dn_cell, dr_cell, sf_cell nb, sf_cell nN]) <;> assumption)
    (first
      | (go_at_call 81; refine (roAt_any _ b g R first s s (by exact hc) ⟨hR1, hR2⟩ hf (by omega) m Hm.out).mono ?_; rintro e w' ⟨rfl, k, rfl⟩))
  go_upto_region 6 with (fail)
  refine cutW (fun W => Ob W b 135 [.slice (some ⟨g, 0, none⟩) R R, .int .i64 first, .int .i64 s] ∧ Ob W g 85 ((arr.set m ⟨xk, xs', xi, xy, xd, xq, xp⟩).flatMap Od.cells) ∧ Mods (fun k => k = b ∨ k = g) w W) ⟨?_, ?_, ?_⟩ ?_
  · exact (HO.out.drewN _).upd (((((((Upd.refl g _).set (m * 7) _).set (m * 7 + 1) _).set (m * 7 + 2) _).set (m * 7 + 3) _).set (m * 7 + 4) _).set (m * 7 + 5) _ |>.set (m * 7 + 6) _) hne
  · rw [← flat_set7 arr m _ (by have := HH.out.hl; omega)]
    exact (((((((HG.out.drewN _).set (m * 7) _).set (m * 7 + 1) _).set (m * 7 + 2) _).set (m * 7 + 3) _).set (m * 7 + 4) _).set (m * 7 + 5) _).set (m * 7 + 6) _
  · exact (HM.out.drewN _).trans ((((((((Upd.refl g _).set (m * 7) _).set (m * 7 + 1) _).set (m * 7 + 2) _).set (m * 7 + 3) _).set (m * 7 + 4) _).set (m * 7 + 5) _ |>.set (m * 7 + 6) _).mods (.inr rfl))
  clear hc hc0 hc2 hgz HO HG HM x0 x1 x2 x3 x4 x5 x6 g0 g1 g2 g3 g4 g5 g6
  rintro W2 ⟨ho, hg, hM⟩
  have hc := ho.cell
  have hz := ho.frozen
  go_wp2
  go_ret
  refine ⟨rfl, arr.set m ⟨xk, xs', xi, xy, xd, xq, xp⟩, ⟨?_, hg.upd (Upd.set (Upd.refl b _) 2 _) hne.symm, by simp [HH.out.hl], hR, hf, by simp [HS.out]; omega, ?_, hne⟩, hM.setCell _ (.inl (.inl rfl)) _⟩
  · have := ho.set 2 (.int .i64 ((s : Int) + 1))
    simpa [HS.out] using this
  · intro i y hy
    rcases Nat.lt_trichotomy i s with hi | hi | hi
    · rw [List.getElem?_append_left (by rw [HS.out]; exact hi)] at hy
      rw [List.getElem?_set_ne (by rw [← Hm.out]; exact (mod_ne hf hi hlt).symm)]
      exact HH.out.hat i y hy
    · subst hi
      rw [List.getElem?_append_right (by rw [HS.out]; exact Nat.le_refl _), HS.out, Nat.sub_self] at hy
      simp at hy
      subst hy
      rw [Hm.out, List.getElem?_set_self (by have := HH.out.hl; omega)]
    · rw [List.getElem?_eq_none (by simp [HS.out]; omega)] at hy
      cases hy

end Go.Proofs.Yteggpdhkpmkldaa
