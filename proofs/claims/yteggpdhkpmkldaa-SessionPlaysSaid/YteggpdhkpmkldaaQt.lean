import Derived.Test.YteggpdhkpmkldaaQs
namespace Go.Proofs.Yteggpdhkpmkldaa
open Go.RowKit

set_option maxHeartbeats 1600000 in
set_option maxRecDepth 100000 in
theorem rfPop_empty (w : World) (fb : Nat) (v : Value) (R : Nat) (tk fl : Int) (L : List Od) (down : Bool) (h : RfSe w fb v R L.length tk fl L down) :
    Calls Try.prog 74 #[.pointer (some ⟨fb, 0, none⟩)] w fun e w' => e = .returned (.tuple #[.agg #[.int .i64 0, .int .i64 0, .string ⟨#[]⟩, .string ⟨#[]⟩, .int .i64 0, .int .i64 0, .int .i64 0], .int .i64 50]) ∧ Below w.heap.size w w' := by
  obtain ⟨A, c, rfl, -, hc1, hc2⟩ := own_shape h.hown
  have HO := Lib.hid h.ho
  clear h
  generalize L.length = n at *
  have hN := Ob.new w 128 [.int .i64 0, .int .i64 0, .string ⟨#[]⟩, .string ⟨#[]⟩, .int .i64 0, .int .i64 0, .int .i64 0]
  go_enter Try.func74, Try.ntmps74
  go_upto_region 1 with (fail)
  refine cutW (fun W => Ob W fb 97 [.int .i64 R, .int .i64 n, .int .i64 tk, .int .i64 fl, .slice A n c, .bool down] ∧ Ob W w.heap.size 128 [.int .i64 0, .int .i64 0, .string ⟨#[]⟩, .string ⟨#[]⟩, .int .i64 0, .int .i64 0, .int .i64 0] ∧ Below w.heap.size w W) ⟨HO.out.alloc _, hN, Below.alloc_set⟩ ?_
  clear hN HO
  rintro W ⟨ho, hN, hB⟩
  have hc := ho.cell
  have hn := hN.cell
  have hz := hN.frozen
  have hl := hN.lt
  have HB := Lib.hid hB
  clear ho hN hB
  go_quiet (fail)
  go_wp2_with fail
  refine bodyPost_ret (v := .tuple #[.agg #[.int .i64 0, .int .i64 0, .string ⟨#[]⟩, .string ⟨#[]⟩, .int .i64 0, .int .i64 0, .int .i64 0], .int .i64 50]) (by simp [results, Try.results74, go_sem, hn]) rfl ⟨rfl, ?_⟩
  repeat (refine Below.setCell ?_ (by simp) _)
  exact Below.drewN HB.out _

set_option maxHeartbeats 1600000 in
set_option maxRecDepth 100000 in
theorem rfPop_some (w : World) (fb : Nat) (v : Value) (R out : Nat) (tk fl : Int) (L : List Od) (down : Bool) (h : RfSe w fb v R out tk fl L down) (x : Od) (hx : L[out]? = some x) (hL : L.length ≤ 1000000) :
    Calls Try.prog 74 #[.pointer (some ⟨fb, 0, none⟩)] w fun e w' => e = .returned (.tuple #[x.agg, .int .i64 0]) ∧ RfSe w' fb v R (out + 1) tk fl L down ∧ Mods (fun k => k = fb) w w' := by
  obtain ⟨A, c, rfl, hrd, hc1, hc2⟩ := own_shape h.hown
  have hol : out < L.length := (List.getElem?_eq_some_iff.1 hx).1
  obtain ⟨gi, oi, hA, hgl, hgc⟩ := hrd.2.2 (by omega)
  subst hA
  obtain ⟨xk, xq, xi, xy, xd, xm, xp⟩ := x
  have hxc : ∀ j, j < 7 → w.cell? ⟨gi, oi + out * 7 + j, none⟩ = [Value.int .i64 xk, .int .i64 xq, .string xi, .string xy, .int .i64 xd, .int .i64 xm, .int .i64 xp][j]? := fun j hj => by
    have h1 := flat_at Od.cells 7 (fun _ => rfl) L out j _ hx hj
    have hjl : j < [Value.int .i64 xk, .int .i64 xq, .string xi, .string xy, .int .i64 xd, .int .i64 xm, .int .i64 xp].length := hj
    rw [List.getElem?_eq_getElem hjl, Nat.add_assoc]
    exact hgc _ _ (h1.trans (List.getElem?_eq_getElem hjl))
  have hgf : gi ≠ fb := by
    have := own_block h.hown gi rfl
    omega
  have hN := Ob.new w 128 [.int .i64 0, .int .i64 0, .string ⟨#[]⟩, .string ⟨#[]⟩, .int .i64 0, .int .i64 0, .int .i64 0]
  have H := Lib.hid h
  have HX := Lib.hid hxc
  have hfl := h.ho.lt
  have HE : Hid (L.length = L.length) := Lib.hid rfl
  generalize hn : L.length = n at *
  have Hn := Lib.hid hn
  clear h hx hgc hrd hxc HE hn
  have hd : decide (n ≤ out) = false := by simp; omega
  have hd2 : decide ((n : Int) ≤ (out : Int)) = false := by simp; omega
  have hw1 : IntKind.i64.wrap ((out : Int) + 1) = (out : Int) + 1 := by rw [IntWalk.i64_in _ (by omega)]
  have hw2 : IntKind.i64.wrap ((out : Int) + 1 - 1) = (out : Int) := by rw [IntWalk.i64_in _ (by omega)]; omega
  go_enter Try.func74, Try.ntmps74
  go_upto_region 1 with (fail)
  refine cutW (fun W => Ob W fb 97 [.int .i64 R, .int .i64 out, .int .i64 tk, .int .i64 fl, .slice (some ⟨gi, oi, none⟩) n c, .bool down] ∧ Ob W w.heap.size 128 [.int .i64 0, .int .i64 0, .string ⟨#[]⟩, .string ⟨#[]⟩, .int .i64 0, .int .i64 0, .int .i64 0] ∧ Below w.heap.size w W) ⟨H.out.ho.alloc _, hN, Below.alloc_set⟩ ?_
  clear hN
  rintro W ⟨ho, hN, hB⟩
  have hc := ho.cell
  have hz := ho.frozen
  have hl := ho.lt
  have HO := Lib.hid ho
  have HN := Lib.hid hN
  have HB := Lib.hid hB
  clear ho hN hB
  go_quiet (fail)
  go_upto_region 4 with (fail)
  refine cutW (fun V => Ob V fb 97 [.int .i64 R, .int .i64 ((out : Int) + 1), .int .i64 tk, .int .i64 fl, .slice (some ⟨gi, oi, none⟩) n c, .bool down] ∧ Ob V w.heap.size 128 [.int .i64 0, .int .i64 0, .string ⟨#[]⟩, .string ⟨#[]⟩, .int .i64 0, .int .i64 0, .int .i64 0] ∧ Mods (fun k => k = fb) w V) ⟨(HO.out.drewN _).set 1 _, (HN.out.drewN _).upd ((Upd.refl fb _).set 1 _) (by omega), ?_⟩ ?_
  · exact ((Below.mods_ HB.out (fun k => k = fb)).drewN _).setCell (⟨fb, 1, none⟩ : Addr) (.inl rfl) _
  clear hc hz hl HO HN HB
  rintro V ⟨ho, hN, hM⟩
  have hc := ho.cell
  have hn := hN.cell
  have hzn := hN.frozen
  have hln := hN.lt
  have hq : ∀ i v, w.cell? ⟨gi, i, none⟩ = some v → V.cell? ⟨gi, i, none⟩ = some v := fun i v hv => by
    rw [← hv]; unfold World.cell?; rw [hM.block gi hgl hgf]
  have y0 : V.cell? ⟨gi, oi + out * 7, none⟩ = some (.int .i64 xk) := hq _ _ (HX.out 0 (by omega))
  have y1 : _ = some _ := hq _ _ (HX.out 1 (by omega))
  have y2 : _ = some _ := hq _ _ (HX.out 2 (by omega))
  have y3 : _ = some _ := hq _ _ (HX.out 3 (by omega))
  have y4 : _ = some _ := hq _ _ (HX.out 4 (by omega))
  have y5 : _ = some _ := hq _ _ (HX.out 5 (by omega))
  have y6 : _ = some _ := hq _ _ (HX.out 6 (by omega))
  have HO := Lib.hid ho
  have HM := Lib.hid hM
  clear ho hN hM hq
  refine wp_region_tail 11 (by kernel_rfl) (by kernel_rfl) ?_
  simp only [List.take_succ_cons, List.take_zero, List.drop_succ_cons, List.drop_zero]
  repeat (go_big_quiet_step (fail))
  refine wpQuiet_nil ?_
  go_wp2_with fail
  refine bodyPost_ret (v := .tuple #[.agg #[.int .i64 xk, .int .i64 xq, .string xi, .string xy, .int .i64 xd, .int .i64 xm, .int .i64 xp], .int .i64 0]) (by simp [results, Try.results74, go_sem, hn]) rfl ⟨rfl, ?_⟩
  have hu2 := ((((((((Upd.refl w.heap.size V).set 0 (.int .i64 xk)).set 1 (.int .i64 xq)).set 2 (.string xi)).set 3 (.string xy)).set 4 (.int .i64 xd)).set 5 (.int .i64 xm)).set 6 (.int .i64 xp)).drew
  have hM2 := ((((((((HM.out).setCell (⟨w.heap.size, 0, none⟩ : Addr) (.inr (Nat.le_refl _)) (.int .i64 xk)).setCell (⟨w.heap.size, 1, none⟩ : Addr) (.inr (Nat.le_refl _)) (.int .i64 xq)).setCell (⟨w.heap.size, 2, none⟩ : Addr) (.inr (Nat.le_refl _)) (.string xi)).setCell (⟨w.heap.size, 3, none⟩ : Addr) (.inr (Nat.le_refl _)) (.string xy)).setCell (⟨w.heap.size, 4, none⟩ : Addr) (.inr (Nat.le_refl _)) (.int .i64 xd)).setCell (⟨w.heap.size, 5, none⟩ : Addr) (.inr (Nat.le_refl _)) (.int .i64 xm)).setCell (⟨w.heap.size, 6, none⟩ : Addr) (.inr (Nat.le_refl _)) (.int .i64 xp)).drew
  exact ⟨⟨HO.out.upd hu2 (by omega), own_mods H.out.hown hM2 (fun k hk he => by have := own_block H.out.hown k hk; omega)⟩, hM2⟩

set_option maxHeartbeats 800000 in
theorem rfTake (w : World) (fb : Nat) (v : Value) (R out : Nat) (tk fl : Int) (L : List Od) (down : Bool) (h : RfSe w fb v R out tk fl L down) (ht0 : 0 ≤ tk) (ht9 : tk ≤ 9223372036854775806) (seq : Int) :
    Calls Try.prog 75 #[.pointer (some ⟨fb, 0, none⟩), .int .i64 seq] w fun e w' => e = .returned (.int .i64 (eTake tk seq).1) ∧ RfSe w' fb v R out (eTake tk seq).2 fl L down ∧ Mods (fun k => k = fb) w w' := by
  have hc := h.ho.cell
  have hz := h.ho.frozen
  have hl := h.ho.lt
  have H := Lib.hid h
  have hw : IntKind.i64.wrap (tk + 1) = tk + 1 := by rw [IntWalk.i64_in _ (by omega)]
  clear h
  unfold eTake
  by_cases h1 : seq ≤ tk
  · rw [if_pos h1]
    have hd : decide (seq ≤ tk) = true := by simpa using h1
    clear h1
    go_enter Try.func75, Try.ntmps75
    go_wp2_with fail
    go_ret
    exact ⟨rfl, H.out, Mods.refl _ _⟩
  rw [if_neg h1]
  have hd : decide (seq ≤ tk) = false := by simpa using h1
  by_cases h2 : tk + 1 < seq
  · rw [if_pos h2]
    have hd2 : decide (tk + 1 < seq) = true := by simpa using h2
    clear h1 h2
    go_enter Try.func75, Try.ntmps75
    go_wp2_with fail
    go_ret
    exact ⟨rfl, H.out, Mods.refl _ _⟩
  · rw [if_neg h2]
    have hd2 : decide (tk + 1 < seq) = false := by simpa using h2
    clear h1 h2
    go_enter Try.func75, Try.ntmps75
    go_wp2_with fail
    go_ret
    exact ⟨rfl, H.out.setS 2 (.int .i64 seq) rfl, (Mods.refl (fun k => k = fb) w).setCell (⟨fb, 2, none⟩ : Addr) (.inl rfl) _⟩

end Go.Proofs.Yteggpdhkpmkldaa
