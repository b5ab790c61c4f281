import Derived.Test.YteggpdhkpmkldaaQa
import Derived.Test.YteggpdhkpmkldaaKc
namespace Go.Proofs.Yteggpdhkpmkldaa
open Go.RowKit

theorem info85 : (Try.prog.info? 85).map (fun i => (i.zero, i.size, i.bytes)) = some (some (.agg #[.int .i64 0, .int .i64 0, .string ⟨#[]⟩, .string ⟨#[]⟩, .int .i64 0, .int .i64 0, .int .i64 0]), 7, 72) := by kernel_rfl

set_option maxHeartbeats 400000 in
theorem roNew_no (w : World) (n : Int) (h : n < 1 ∨ 1024 < n) :
    Calls Try.prog 67 #[.int .i64 n] w fun e w' => e = .returned (.tuple #[.pointer none, .int .i64 2]) ∧ w = w' := by
  by_cases h1 : n < 1
  · clear h
    go_enter Try.func67, Try.ntmps67
    go_wp2
    go_ret2
    exact ⟨rfl, rfl⟩
  · have h2 : 1024 < n := h.resolve_left h1
    clear h
    go_enter Try.func67, Try.ntmps67
    go_wp2
    go_ret2
    exact ⟨rfl, rfl⟩
set_option maxHeartbeats 400000 in
set_option maxRecDepth 100000 in
theorem roNew_yes (w : World) (n : Nat) (h1 : 1 ≤ n) (h2 : n ≤ 1024) :
    Calls Try.prog 67 #[.int .i64 n] w fun e w' => e = .returned (.tuple #[.pointer (some ⟨w.heap.size + 1, 0, none⟩), .int .i64 0]) ∧ RoAt w' (w.heap.size + 1) w.heap.size n 0 [] (List.replicate n zOd) ∧ Below w.heap.size w w' := by
  obtain ⟨i0, hi0, hz0, hz1, hz2⟩ := info_parts info85
  have hmk : ∀ W : World, (Instr.makeSlice 83 (.int .i64 (n : Int)) (.int .i64 (n : Int))).run Try.prog W = .ok (.slice (some ⟨W.heap.size, 0, none⟩) n n) (W.alloc (.cells ((List.replicate n zOd).flatMap Od.cells).toArray 85)) := fun W => by
    have hr := run_make (P := Try.prog) W 83 85 i0 (.agg #[.int .i64 0, .int .i64 0, .string ⟨#[]⟩, .string ⟨#[]⟩, .int .i64 0, .int .i64 0, .int .i64 0]) Try.underlying83 hi0 hz0 .i64 .i64 n n (by omega) (by omega) (by rw [hz2]; omega) (by omega)
    simp only [Int.toNat_natCast] at hr
    rw [hr, hz1, ← madeCells_flat Od.cells zOd 7 rfl (by decide) n]
    rfl
  have hO := Ob.new2 w (.cells ((List.replicate n zOd).flatMap Od.cells).toArray 85) 135 [.slice (some ⟨w.heap.size, 0, none⟩) n n, .int .i64 0, .int .i64 0]
  have hG := (Ob.new w 85 ((List.replicate n zOd).flatMap Od.cells)).alloc (.cells #[.slice (some ⟨w.heap.size, 0, none⟩) n n, .int .i64 0, .int .i64 0] 135)
  have HO := Lib.hid hO
  have HG := Lib.hid hG
  clear hi0 hz0 hz1 hz2 hO hG
  generalize ((List.replicate n zOd).flatMap Od.cells).toArray = cs at *
  go_enter Try.func67, Try.ntmps67
  go_wp2
  go_ret2
  refine ⟨rfl, ⟨HO.out, HG.out, by simp, ⟨h1, h2⟩, by omega, by simp, fun i x hx => by simp at hx, by omega⟩, ?_⟩
  exact ((Below.refl _ w).alloc (Nat.le_refl _) _).alloc (by simp) _

set_option maxHeartbeats 1600000 in
set_option maxRecDepth 100000 in
theorem roPeek_some (w : World) (b g R first : Nat) (x : Od) (xs arr : List Od) (h : RoAt w b g R first (x :: xs) arr) :
    Calls Try.prog 82 #[.pointer (some ⟨b, 0, none⟩)] w fun e w' => e = .returned (.tuple #[x.agg, .int .i64 0]) ∧ Below w.heap.size w w' := by
  have hR1 := h.hR.1
  have hR2 := h.hR.2
  have hf := h.hf
  have h0 := h.hat 0 x rfl
  rw [Nat.add_zero, Nat.mod_eq_of_lt hf] at h0
  have hsl : (((x :: xs).length : Int) == 0) = false := by simp; omega
  have hfi : (0 : Int) ≤ first := by omega
  have HO := Lib.hid h.ho
  have HG := Lib.hid h.hg
  have H0 := Lib.hid h0
  clear h h0
  generalize (x :: xs).length = s at *
  obtain ⟨xk, xq, xi, xy, xd, xm, xp⟩ := x
  simp only [Od.agg]
  have hN := Ob.new w 85 [.int .i64 0, .int .i64 0, .string ⟨#[]⟩, .string ⟨#[]⟩, .int .i64 0, .int .i64 0, .int .i64 0]
  go_enter Try.func82, Try.ntmps82
  go_upto_region 2 with (fail)
  refine cutW (fun W => Ob W b 135 [.slice (some ⟨g, 0, none⟩) R R, .int .i64 first, .int .i64 s] ∧ Ob W g 85 (arr.flatMap Od.cells) ∧ Ob W w.heap.size 85 [.int .i64 0, .int .i64 0, .string ⟨#[]⟩, .string ⟨#[]⟩, .int .i64 0, .int .i64 0, .int .i64 0] ∧ Below w.heap.size w W) ⟨(HO.out.alloc _).alloc _, (HG.out.alloc _).alloc _, hN.alloc _, Below.alloc_set.alloc (by simp) _⟩ ?_
  clear hN HO HG
  rintro W ⟨ho, hg, hN, hB⟩
  have hc := ho.cell
  have hgc : ∀ j, j < 7 → W.cell? ⟨g, first * 7 + j, none⟩ = [Value.int .i64 xk, .int .i64 xq, .string xi, .string xy, .int .i64 xd, .int .i64 xm, .int .i64 xp][j]? := fun j hj => (hg.cell (first * 7 + j)).trans (flat_at Od.cells 7 (fun _ => rfl) arr first j _ H0.out hj)
  have g0 : W.cell? ⟨g, first * 7, none⟩ = some (.int .i64 xk) := hgc 0 (by omega)
  have g1 : _ = some _ := hgc 1 (by omega)
  have g2 : _ = some _ := hgc 2 (by omega)
  have g3 : _ = some _ := hgc 3 (by omega)
  have g4 : _ = some _ := hgc 4 (by omega)
  have g5 : _ = some _ := hgc 5 (by omega)
  have g6 : _ = some _ := hgc 6 (by omega)
  have hn := hN.cell
  have hz := hN.frozen
  have hl := hN.lt
  have HB := Lib.hid hB
  clear ho hg hN hB hgc H0
  go_upto_region 6 with (go_at_call 80; refine (roIs_some _ b g R (hc 0) hR1).mono ?_; rintro e w' ⟨rfl, rfl⟩)
  refine wp_region_tail 10 (by kernel_rfl) (by kernel_rfl) ?_
  simp only [List.take_succ_cons, List.take_zero, List.drop_succ_cons, List.drop_zero]
  repeat (go_big_quiet_step (fail))
  refine wpQuiet_nil ?_
  go_wp2_with fail
  refine bodyPost_ret (v := .tuple #[.agg #[.int .i64 xk, .int .i64 xq, .string xi, .string xy, .int .i64 xd, .int .i64 xm, .int .i64 xp], .int .i64 0]) (by simp [results, Try.results82, go_sem, hn]) rfl ⟨rfl, ?_⟩
  refine Below.drewN ?_ 1
  repeat (refine Below.setCell ?_ (by simp) _)
  exact HB.out

set_option maxHeartbeats 3200000 in
set_option maxRecDepth 100000 in
theorem roPop_some (w : World) (b g R first : Nat) (x : Od) (xs arr : List Od) (h : RoAt w b g R first (x :: xs) arr) :
    Calls Try.prog 71 #[.pointer (some ⟨b, 0, none⟩)] w fun e w' => e = .returned (.tuple #[x.agg, .int .i64 0]) ∧ ∃ first' arr', RoAt w' b g R first' xs arr' ∧ Mods (fun k => k = b ∨ k = g) w w' := by
  have hR := h.hR
  have hR1 := hR.1
  have hR2 := hR.2
  have hf := h.hf
  have hne := h.hne
  have hx := h.hx
  have hsl : (x :: xs).length = xs.length + 1 := rfl
  have hbl := h.ho.lt
  have hgl := h.hg.lt
  have HH := Lib.hid h
  clear h
  generalize hs : xs.length = s at *
  have HS := Lib.hid hs
  clear hs
  have hs9 : s ≤ 1024 := by have := HH.out.hx; simp [HS.out] at this; omega
  obtain ⟨X, hX⟩ : ∃ X, x = X := ⟨_, rfl⟩
  have HXX := Lib.hid hX
  obtain ⟨xk, xq, xi, xy, xd, xm, xp⟩ := X
  have hag : x.agg = .agg #[.int .i64 xk, .int .i64 xq, .string xi, .string xy, .int .i64 xd, .int .i64 xm, .int .i64 xp] := by rw [hX]; rfl
  rw [hag]
  have Hag := Lib.hid hag
  clear hX hag
  have hN := Ob.new w 85 [.int .i64 0, .int .i64 0, .string ⟨#[]⟩, .string ⟨#[]⟩, .int .i64 0, .int .i64 0, .int .i64 0]
  go_enter Try.func71, Try.ntmps71
  go_upto_region 1 with (fail)
  refine cutW (fun W => RoAt W b g R first (x :: xs) arr ∧ Ob W w.heap.size 85 [.int .i64 0, .int .i64 0, .string ⟨#[]⟩, .string ⟨#[]⟩, .int .i64 0, .int .i64 0, .int .i64 0] ∧ Below w.heap.size w W) ⟨HH.out.mods (Below.mods_ Below.alloc_set (fun _ => False)) id id, hN, Below.alloc_set⟩ ?_
  clear hN
  rintro W ⟨h, hN, hB⟩
  have hpk := roPeek_some W b g R first x xs arr h
  rw [Hag.out] at hpk
  have Hpk := Lib.hid hpk
  have H := Lib.hid h
  have HN := Lib.hid hN
  have HB := Lib.hid hB
  clear hpk h hN hB
  go_upto_region 2 with (go_at_call 82; refine Hpk.out.mono ?_; rintro e w3 ⟨rfl, hb3⟩)
  have hX4 := Ob.new w3 85 [.int .i64 xk, .int .i64 xq, .string xi, .string xy, .int .i64 xd, .int .i64 xm, .int .i64 xp]
  refine cutW (fun V => RoAt V b g R first (x :: xs) arr ∧ Ob V w.heap.size 85 [.int .i64 0, .int .i64 0, .string ⟨#[]⟩, .string ⟨#[]⟩, .int .i64 0, .int .i64 0, .int .i64 0] ∧ Ob V w3.heap.size 85 [.int .i64 xk, .int .i64 xq, .string xi, .string xy, .int .i64 xd, .int .i64 xm, .int .i64 xp] ∧ Below w.heap.size w V ∧ V.heap.size = w3.heap.size + 1) ⟨H.out.mods ((Below.mods_ hb3 (fun _ => False)).alloc _) id id, (HN.out.below hb3 HN.out.lt).alloc _, hX4, (HB.out.trans (hb3.mono HB.out.size)).alloc (Nat.le_trans HB.out.size hb3.size) _, by simp⟩ ?_
  have hwW := HN.out.lt
  have h3 := hb3.size
  clear Hpk H HN HB hX4 hb3
  generalize w3.heap.size = N4 at *
  rintro V ⟨h, hN, hX4, hB, hVs⟩
  have hZ := Ob.new V 85 [.int .i64 0, .int .i64 0, .string ⟨#[]⟩, .string ⟨#[]⟩, .int .i64 0, .int .i64 0, .int .i64 0]
  rw [hVs] at hZ
  have H := Lib.hid h
  have HN := Lib.hid hN
  have HX4 := Lib.hid hX4
  have HB := Lib.hid hB
  clear h hN hX4 hB
  go_upto_region 5 with (fail)
  refine cutW (fun U => RoAt U b g R first (x :: xs) arr ∧ Ob U w.heap.size 85 [.int .i64 0, .int .i64 0, .string ⟨#[]⟩, .string ⟨#[]⟩, .int .i64 0, .int .i64 0, .int .i64 0] ∧ Ob U N4 85 [.int .i64 xk, .int .i64 xq, .string xi, .string xy, .int .i64 xd, .int .i64 xm, .int .i64 xp] ∧ Ob U (N4 + 1) 85 [.int .i64 0, .int .i64 0, .string ⟨#[]⟩, .string ⟨#[]⟩, .int .i64 0, .int .i64 0, .int .i64 0] ∧ Below w.heap.size w U) ⟨H.out.mods ((Mods.refl (fun _ => False) V).alloc _) id id, HN.out.alloc _, HX4.out.alloc _, hZ, HB.out.alloc HB.out.size _⟩ ?_
  clear H HN HX4 HB hZ
  rintro U ⟨h, hN, hX4, hZ, hB⟩
  have ho := h.ho
  have hg := h.hg
  rw [hsl, show ((s + 1 : Nat) : Int) = (s : Int) + 1 from rfl] at ho
  have hc := ho.cell
  have hcz := hZ.cell
  obtain ⟨y, hy⟩ : ∃ y, arr[first]? = some y := ⟨_, List.getElem?_eq_getElem (by have := HH.out.hl; omega)⟩
  obtain ⟨yk, yq, yi, yy, yd, ym, yp⟩ := y
  have hgc : ∀ j, j < 7 → U.cell? ⟨g, first * 7 + j, none⟩ = [Value.int .i64 yk, .int .i64 yq, .string yi, .string yy, .int .i64 yd, .int .i64 ym, .int .i64 yp][j]? := fun j hj => (hg.cell (first * 7 + j)).trans (flat_at Od.cells 7 (fun _ => rfl) arr first j _ hy hj)
  have g0 : U.cell? ⟨g, first * 7, none⟩ = some (.int .i64 yk) := hgc 0 (by omega)
  have g1 : _ = some _ := hgc 1 (by omega)
  have g2 : _ = some _ := hgc 2 (by omega)
  have g3 : _ = some _ := hgc 3 (by omega)
  have g4 : _ = some _ := hgc 4 (by omega)
  have g5 : _ = some _ := hgc 5 (by omega)
  have g6 : _ = some _ := hgc 6 (by omega)
  have hgz := hg.frozen
  have hfi : (0 : Int) ≤ first := by omega
  have HO := Lib.hid ho
  have HG := Lib.hid hg
  have HN := Lib.hid hN
  have HX4 := Lib.hid hX4
  have HB := Lib.hid hB
  clear h hN hX4 hZ hB ho hg hgc hy hsl hx
  refine wp_region_tail 10 (by kernel_rfl) (by kernel_rfl) ?_
  simp only [List.take_succ_cons, List.take_zero, List.drop_succ_cons, List.drop_zero]
  repeat (go_big_quiet_step (fail))
  refine wpQuiet_nil ?_
  go_upto_region 6 with (fail)
  have hu := ((((((((Upd.refl g U).set (first * 7) (.int .i64 0)).set (first * 7 + 1) (.int .i64 0)).set (first * 7 + 2) (.string ⟨#[]⟩)).set (first * 7 + 3) (.string ⟨#[]⟩)).set (first * 7 + 4) (.int .i64 0)).set (first * 7 + 5) (.int .i64 0)).set (first * 7 + 6) (.int .i64 0)).drew
  have nNg : w.heap.size ≠ g := by omega
  have n4g : N4 ≠ g := by omega
  have nNb : w.heap.size ≠ b := by omega
  have n4b : N4 ≠ b := by omega
  have hg7 := (((((((HG.out.set (first * 7) (.int .i64 0)).set (first * 7 + 1) (.int .i64 0)).set (first * 7 + 2) (.string ⟨#[]⟩)).set (first * 7 + 3) (.string ⟨#[]⟩)).set (first * 7 + 4) (.int .i64 0)).set (first * 7 + 5) (.int .i64 0)).set (first * 7 + 6) (.int .i64 0)).drew
  have hfs := flat_set7 arr first zOd (by have := HH.out.hl; omega)
  simp only [zOd] at hfs
  rw [hfs] at hg7
  refine cutW (fun W2 => Ob W2 b 135 [.slice (some ⟨g, 0, none⟩) R R, .int .i64 first, .int .i64 ((s : Int) + 1)] ∧ Ob W2 g 85 ((arr.set first zOd).flatMap Od.cells) ∧ Ob W2 w.heap.size 85 [.int .i64 0, .int .i64 0, .string ⟨#[]⟩, .string ⟨#[]⟩, .int .i64 0, .int .i64 0, .int .i64 0] ∧ Ob W2 N4 85 [.int .i64 xk, .int .i64 xq, .string xi, .string xy, .int .i64 xd, .int .i64 xm, .int .i64 xp] ∧ Mods (fun k => k = b ∨ k = g) w W2) ⟨HO.out.upd hu hne, hg7, HN.out.upd hu nNg, HX4.out.upd hu n4g, (Below.mods_ HB.out _).trans (hu.mods (.inr rfl))⟩ ?_
  clear hc hcz hgz HO HG HN HX4 HB hu hg7 hfs g0 g1 g2 g3 g4 g5 g6
  rintro W2 ⟨ho, hg, hN, hX4, hM⟩
  have hcA : ∀ j, W2.cell? ⟨b, j, none⟩ = [.slice (some ⟨g, 0, none⟩) R R, .int .i64 first, .int .i64 ((s + 1 : Nat) : Int)][j]? := ho.cell
  obtain ⟨m, hm⟩ : ∃ m, (first + 1) % R = m := ⟨_, rfl⟩
  have Hm := Lib.hid hm
  have HcA := Lib.hid hcA
  clear hm hcA
  go_wp2_with fail
  refine (roAt_any W2 b g R first (s + 1) 1 HcA.out hR hf (by omega) m Hm.out).mono ?_
  rintro e w1 ⟨rfl, k2, rfl⟩
  have hc := (ho.drewN k2).cell
  have hz := (ho.drewN k2).frozen
  have hcn := (hN.drewN k2).cell
  have hzn := (hN.drewN k2).frozen
  have hln := (hN.drewN k2).lt
  have hc4 := (hX4.drewN k2).cell
  have HO := Lib.hid ho
  have HG := Lib.hid hg
  have HM := Lib.hid hM
  clear ho hg hN hX4 hM
  go_wp2_with fail
  refine bodyPost_ret (v := .tuple #[.agg #[.int .i64 xk, .int .i64 xq, .string xi, .string xy, .int .i64 xd, .int .i64 xm, .int .i64 xp], .int .i64 0]) (by simp [results, Try.results71, go_sem, hcn]) rfl ⟨rfl, m, arr.set first zOd, ?_⟩
  have hu1 := ((Upd.refl b (W2.drewN k2)).set 1 (.int .i64 m)).set 2 (.int .i64 s)
  have hu2 := (((((((Upd.refl w.heap.size (((W2.drewN k2).setCell ⟨b, 1, none⟩ (.int .i64 m)).setCell ⟨b, 2, none⟩ (.int .i64 s))).set 0 (.int .i64 xk)).set 1 (.int .i64 xq)).set 2 (.string xi)).set 3 (.string xy)).set 4 (.int .i64 xd)).set 5 (.int .i64 xm)).set 6 (.int .i64 xp)
  refine ⟨⟨?_, ((HG.out.drewN k2).upd hu1 hne.symm).upd hu2 (Ne.symm nNg), by simp [HH.out.hl], hR, by rw [← Hm.out]; exact Nat.mod_lt _ (by omega), by rw [HS.out]; have := HH.out.hx; simp [HS.out] at this; omega, ?_, hne⟩, ?_⟩
  · have := (((HO.out.drewN k2).set 1 (.int .i64 m)).set 2 (.int .i64 s)).upd hu2 (Ne.symm nNb)
    simpa [HS.out] using this
  · intro i y hy
    have hil : i < xs.length := (List.getElem?_eq_some_iff.1 hy).1
    have h1 := HH.out.hat (i + 1) y (by simpa using hy)
    have hxl := HH.out.hx
    simp at hxl
    have e1 : (m + i) % R = (first + (i + 1)) % R := by rw [← Hm.out, Nat.mod_add_mod]; congr 1; omega
    rw [e1, List.getElem?_set_ne (fun e => mod_ne hf (i := 0) (s := i + 1) (by omega) (by omega) (by rw [Nat.add_zero, Nat.mod_eq_of_lt hf]; exact e))]
    exact h1
  · have hM1 : Mods (fun k => k = b ∨ k = g) w (((W2.drewN k2).setCell ⟨b, 1, none⟩ (.int .i64 m)).setCell ⟨b, 2, none⟩ (.int .i64 s)) := ((HM.out.drewN k2).setCell (⟨b, 1, none⟩ : Addr) (.inl (.inl rfl)) _).setCell (⟨b, 2, none⟩ : Addr) (.inl (.inl rfl)) _
    exact (((((((hM1.setCell (⟨w.heap.size, 0, none⟩ : Addr) (.inr (Nat.le_refl _)) _).setCell (⟨w.heap.size, 1, none⟩ : Addr) (.inr (Nat.le_refl _)) _).setCell (⟨w.heap.size, 2, none⟩ : Addr) (.inr (Nat.le_refl _)) _).setCell (⟨w.heap.size, 3, none⟩ : Addr) (.inr (Nat.le_refl _)) _).setCell (⟨w.heap.size, 4, none⟩ : Addr) (.inr (Nat.le_refl _)) _).setCell (⟨w.heap.size, 5, none⟩ : Addr) (.inr (Nat.le_refl _)) _).setCell (⟨w.heap.size, 6, none⟩ : Addr) (.inr (Nat.le_refl _)) _)

end Go.Proofs.Yteggpdhkpmkldaa
