import Derived.Test.YteggpdhkpmkldaaQu
import Derived.Test.YteggpdhkpmkldaaBq
namespace Go.Proofs.Yteggpdhkpmkldaa
open Go.RowKit

set_option maxHeartbeats 16000000 in
set_option maxRecDepth 100000 in
theorem sessionPlays_walk (w : World) (room : Int) (A : Option Addr) (n c : Nat) (ops : List XOp) (hr : Rd w A n 9 (ops.flatMap xopCells)) (hl : ops.length = n) :
    Calls Try.prog 11 #[.int .i64 room, .slice A n c] w fun e w' => e = .returned (.bool true) ∧ Below w.heap.size w w' := by
  have h9 := hr.2.1
  have HR := Lib.hid hr
  have HL := Lib.hid hl
  clear hr hl
  go_enter Try.func11, Try.ntmps11
  go_wp2_with fail
  refine (awake37 _).mono ?_
  rintro e w1 ⟨rfl, hb1⟩
  have hs1 := hb1.size
  go_wp2_with fail
  refine (few38 w1 A n c ops (HR.out.below hb1) HL.out).mono ?_
  obtain ⟨fb, hfb⟩ : ∃ fb, fewX ops = fb := ⟨_, rfl⟩
  rw [hfb]
  rintro e w2 ⟨rfl, hb2⟩
  have hB2 := hb1.trans (hb2.mono hs1)
  have HF := Lib.hid hfb
  have HB2 := Lib.hid hB2
  clear hfb hb1 hb2 hB2
  cases fb with
  | false =>
    go_wp2_with fail
    go_ret
    exact ⟨rfl, HB2.out⟩
  | true =>
  have hn : n ≤ 100 := by
    have hf := HF.out
    unfold fewX at hf
    simp only [Bool.and_eq_true, decide_eq_true_eq] at hf
    have := HL.out
    omega
  rcases room_cases room with hbad | ⟨R, rfl, hR1, hR2⟩
  · go_wp2_with fail
    refine (seNew_no _ _ hbad).mono ?_
    rintro e w' ⟨rfl, rfl⟩
    by_cases g1 : room < 1
    · clear hbad
      go_wp2_with fail
      go_ret
      exact ⟨rfl, HB2.out⟩
    · have g2 : 1024 < room := by omega
      clear hbad
      go_wp2_with fail
      go_ret
      exact ⟨rfl, HB2.out⟩
  have d1 : decide ((R : Int) < 1) = false := by simp; omega
  have d2 : decide ((1024 : Int) < (R : Int)) = false := by simp; omega
  go_wp2_with fail
  refine (seNew_yes _ R hR1 hR2).mono ?_
  rintro e w3 ⟨sb, rb, g, rfl, hS, hO, q1, q2, q3, q4, q5, hb3⟩
  have hB3 := HB2.out.trans (hb3.mono HB2.out.size)
  have hss : SsAt w3 sb rb g R 0 [] (List.replicate R zOd) 0 0 0 false := ⟨hS, hO, by omega, by omega⟩
  have hs2 := HB2.out.size
  have hK0 : SPy w (w3.alloc (.cells #[.int .i64 R, .int .i64 0, .int .i64 0, .int .i64 0, .slice none 0 0, .bool false] 97)) sb rb g R w3.heap.size (.slice none 0 0) [] 0 0 0 false 0 :=
    ⟨⟨0, _, hss.below Below.alloc_set⟩, ⟨Ob.new w3 97 [.int .i64 R, .int .i64 0, .int .i64 0, .int .i64 0, .slice none 0 0, .bool false], own_nil _ _ _ _⟩, hB3.alloc hB3.size _, by simp, by simp, by simp, by simp, by omega, by omega, by omega, q4, q5, hS.ho.lt⟩
  have HK0 := Lib.hid hK0
  clear hS hO q1 q2 q3 q4 q5 hb3 hB3 hK0 HB2 hss
  go_upto_region 11 with (fail)
  refine cutW (fun W => SPy w W sb rb g R w3.heap.size (.slice none 0 0) [] 0 0 0 false 0) HK0.out ?_
  clear HK0 d1 d2
  generalize w3.heap.size = fb at *
  intro W hK
  have HK0 := Lib.hid hK
  clear hK
  go_wp2_with fail
  go_loopw [43] (fun i wx => ∃ (k : Nat) (v : Value) (L : List Od) (out tk fl : Nat) (down : Bool), k ≤ n ∧ i = .int .i64 k ∧ SPy w wx sb rb g R fb v L out tk fl down k) (fun i _ => n - (intOf i).toNat)
  case atStart => exact ⟨0, _, _, 0, 0, 0, _, by omega, rfl, HK0.out⟩
  case round =>
    clear HK0
    obtain ⟨k, v, L, out, tk, fl, down, hk, rfl, hK⟩ := hrel
    have HK := Lib.hid hK
    clear hK
    by_cases hlt : k < n
    · obtain ⟨x, hx⟩ : ∃ x, ops[k]? = some x := ⟨_, List.getElem?_eq_getElem (by have := HL.out; omega)⟩
      obtain ⟨ga, off, hA, hbl, hcell⟩ := xop_cells HR.out hlt hx
      subst hA
      have hsz : x.2.2.2.2.1.size ≤ 200 ∧ x.2.2.2.2.2.1.size ≤ 200 := by
        have hf := HF.out
        unfold fewX at hf
        simp only [Bool.and_eq_true] at hf
        have := List.all_eq_true.1 hf.1 x (List.mem_of_getElem? hx)
        simpa [okXp] using this
      obtain ⟨xk, xn, ok, os, oi, oy, od, oq, op⟩ := x
      obtain ⟨hz1, hz2⟩ := hsz
      simp only at hz1 hz2
      have a : ∀ j, j < 9 → wr.cell? ⟨ga, off + k * 9 + j, none⟩ = [Value.int .i64 xk, .int .i64 xn, .int .i64 ok, .int .i64 os, .string oi, .string oy, .int .i64 od, .int .i64 oq, .int .i64 op][j]? := fun j hj => (HK.out.hb.cell (p := ⟨ga, off + k * 9 + j, none⟩) hbl).trans (hcell j hj)
      have a0 : wr.cell? ⟨ga, off + k * 9, none⟩ = some (.int .i64 xk) := a 0 (by omega)
      have a1 : _ = some _ := a 1 (by omega)
      have a2 : _ = some _ := a 2 (by omega)
      have a3 : _ = some _ := a 3 (by omega)
      have a4 : _ = some _ := a 4 (by omega)
      have a5 : _ = some _ := a 5 (by omega)
      have a6 : _ = some _ := a 6 (by omega)
      have a7 : _ = some _ := a 7 (by omega)
      have a8 : _ = some _ := a 8 (by omega)
      clear hcell a hx
      go_upto_region 14 with (fail)
      have hO := Ob.new wr 87 [.int .i64 xk, .int .i64 xn, .int .i64 ok, .int .i64 os, .string oi, .string oy, .int .i64 od, .int .i64 oq, .int .i64 op]
      refine cutW (fun W => Ob W wr.heap.size 87 [.int .i64 xk, .int .i64 xn, .int .i64 ok, .int .i64 os, .string oi, .string oy, .int .i64 od, .int .i64 oq, .int .i64 op] ∧ SPy w W sb rb g R fb v L out tk fl down k) ⟨hO, HK.out.below Below.alloc_set⟩ ?_
      clear hO HK a0 a1 a2 a3 a4 a5 a6 a7 a8
      generalize wr.heap.size = N at *
      rintro V ⟨hO, hK⟩
      have hst := fun j => seStep w (V.drewN j) sb rb g R fb v L out tk fl down k (hK.below (Below.drewN (Below.refl _ _) j)) (by omega) hR2 xk xn ok os oi oy od oq op hz1 hz2
      have x0 : V.cell? ⟨N, 0, none⟩ = some (.int .i64 xk) := hO.cell 0
      have x1 : V.cell? ⟨N, 1, none⟩ = some (.int .i64 xn) := hO.cell 1
      have x2 : V.cell? ⟨N, 2, none⟩ = some (.int .i64 ok) := hO.cell 2
      have x3 : V.cell? ⟨N, 3, none⟩ = some (.int .i64 os) := hO.cell 3
      have x4 : V.cell? ⟨N, 4, none⟩ = some (.string oi) := hO.cell 4
      have x5 : V.cell? ⟨N, 5, none⟩ = some (.string oy) := hO.cell 5
      have x6 : V.cell? ⟨N, 6, none⟩ = some (.int .i64 od) := hO.cell 6
      have x7 : V.cell? ⟨N, 7, none⟩ = some (.int .i64 oq) := hO.cell 7
      have x8 : V.cell? ⟨N, 8, none⟩ = some (.int .i64 op) := hO.cell 8
      have HSt := Lib.hid hst
      clear hst hO hK
      refine wp_region_any (by kernel_rfl) ?_
      try (change wpAny _ _ _ _ _ _ _ (World.drew _))
      refine wpAny_take (i := 0) (v := ?_) rfl (by kernel_rfl) (by kernel_rfl) (by kernel_rfl) (fun _ _ _ h => h) (Or.inl ⟨by rfl, ?_⟩) ?_
      rotate_left
      · intro W; go_simp; rfl
      refine wpAny_take (i := 1) (v := ?_) rfl (by kernel_rfl) (by kernel_rfl) (by kernel_rfl) (fun _ _ _ h => h) (Or.inl ⟨by rfl, ?_⟩) ?_
      rotate_left
      · intro W; go_simp; rfl
      refine wpAny_one 2 _ (by kernel_rfl) rfl (fun K hK => ?_)
      go_simp
      refine hK _ _ ?_
      clear hK K
      refine wpAny_one 3 _ (by kernel_rfl) rfl (fun K hK => ?_)
      go_simp
      go_at_call 47
      refine (HSt.out _).mono ?_
      rintro e W4 ⟨rfl, v4, L4, out4, tk4, fl4, down4, hK4⟩
      refine hK _ _ ?_
      obtain ⟨As, cs, hv4, -, hcs1, hcs2⟩ := own_shape hK4.hf.hown
      subst hv4
      obtain ⟨f4, r4, hs4⟩ := hK4.hs
      have ho4 := hK4.ho
      have hL4 := hK4.hi
      have hfl4 := hK4.hfl
      have HK4 := Lib.hid hK4
      have hcalls : ∀ q : Regrown, (Calls Try.prog 45 #[.pointer (some ⟨sb, 0, none⟩)] (Sort.grow (redrawn W4 q.d) q.os) fun e w' => e = .returned (.int .i64 ((L4.drop out4).length : Int)) ∧ ∃ q : Regrown, w' = Sort.grow (redrawn W4 q.d) q.os) ∧ (Calls Try.prog 48 #[.pointer (some ⟨sb, 0, none⟩)] (Sort.grow (redrawn W4 q.d) q.os) fun e w' => e = .returned (.int .i64 (L4.length : Int)) ∧ ∃ q : Regrown, w' = Sort.grow (redrawn W4 q.d) q.os) ∧ (Calls Try.prog 46 #[.pointer (some ⟨sb, 0, none⟩)] (Sort.grow (redrawn W4 q.d) q.os) fun e w' => e = .returned (.int .i64 (tk4 : Int)) ∧ ∃ q : Regrown, w' = Sort.grow (redrawn W4 q.d) q.os) ∧ (Calls Try.prog 49 #[.pointer (some ⟨sb, 0, none⟩)] (Sort.grow (redrawn W4 q.d) q.os) fun e w' => e = .returned (.int .i64 (fl4 : Int)) ∧ ∃ q : Regrown, w' = Sort.grow (redrawn W4 q.d) q.os) ∧ (Calls Try.prog 50 #[.pointer (some ⟨sb, 0, none⟩)] (Sort.grow (redrawn W4 q.d) q.os) fun e w' => e = .returned (.bool (!down4 && ((fl4 : Int) == 0))) ∧ ∃ q : Regrown, w' = Sort.grow (redrawn W4 q.d) q.os) := fun q => by
        have hq := hs4.mods (mods_regrown' W4 q) id id id
        exact ⟨regrownM ((seWaiting _ _ _ _ _ _ _ _ _ _ _ _ hq).mono fun e w' ⟨he, hw⟩ => ⟨he, by rw [← hw]; exact Mods.refl _ _⟩), regrownM ((seSent _ _ _ _ _ _ _ _ _ _ _ _ hq).mono fun e w' ⟨he, hw⟩ => ⟨he, by rw [← hw]; exact Mods.refl _ _⟩), regrownM ((seTaken _ _ _ _ _ _ _ _ _ _ _ _ hq).mono fun e w' ⟨he, hw⟩ => ⟨he, by rw [← hw]; exact Mods.refl _ _⟩), regrownM ((seFaults _ _ _ _ _ _ _ _ _ _ _ _ hq).mono fun e w' ⟨he, hw⟩ => ⟨he, by rw [← hw]; exact Mods.refl _ _⟩), regrownM ((seHealthy _ _ _ _ _ _ _ _ _ _ _ _ hq).mono fun e w' ⟨he, j, hw⟩ => ⟨he, by rw [hw]; exact (Mods.refl _ _).drewN j⟩)⟩
      have Hcalls := Lib.hid hcalls
      have c1 : ∀ q : Regrown, (Sort.grow (redrawn W4 q.d) q.os).cell? ⟨fb, 1, none⟩ = some (.int .i64 out4) := fun q => cell_regrown (hK4.hf.ho.cell 1) q.d q.os
      have c2 : ∀ q : Regrown, (Sort.grow (redrawn W4 q.d) q.os).cell? ⟨fb, 2, none⟩ = some (.int .i64 tk4) := fun q => cell_regrown (hK4.hf.ho.cell 2) q.d q.os
      have c3 : ∀ q : Regrown, (Sort.grow (redrawn W4 q.d) q.os).cell? ⟨fb, 3, none⟩ = some (.int .i64 fl4) := fun q => cell_regrown (hK4.hf.ho.cell 3) q.d q.os
      have c4 : ∀ q : Regrown, (Sort.grow (redrawn W4 q.d) q.os).cell? ⟨fb, 4, none⟩ = some (.slice As L4.length cs) := fun q => cell_regrown (hK4.hf.ho.cell 4) q.d q.os
      have c5 : ∀ q : Regrown, (Sort.grow (redrawn W4 q.d) q.os).cell? ⟨fb, 5, none⟩ = some (.bool down4) := fun q => cell_regrown (hK4.hf.ho.cell 5) q.d q.os
      have hql : (L4.drop out4).length = L4.length - out4 := by simp
      have hwq : IntKind.i64.wrap ((L4.length : Int) - out4) = ((L4.drop out4).length : Int) := by rw [IntWalk.i64_in _ (by omega), hql]; omega
      generalize (L4.drop out4).length = q at *
      generalize L4.length = L5 at *
      clear hK K hcalls hql hK4 hs4 HSt x0 x1 x2 x3 x4 x5 x6 x7 x8
      refine wpAny_rest_below 4 (by kernel_rfl) (by kernel_rfl) ?_
      simp only [List.append_eq, List.cons_append, List.nil_append, List.drop_succ_cons, List.drop_zero]
      cases down4 with
      | true =>
        repeat (go_big_quiet_step (first | (go_at_call 45; exact (Hcalls.out _).1) | (go_at_call 48; exact (Hcalls.out _).2.1) | (go_at_call 46; exact (Hcalls.out _).2.2.1) | (go_at_call 49; exact (Hcalls.out _).2.2.2.1) | (go_at_call 50; exact (Hcalls.out _).2.2.2.2)))
        refine wpQuiet_nil ?_
        intro W2 hW2
        have hb2 : Below W4.heap.size W4 W2 := by obtain ⟨q, rfl⟩ := hW2; exact below_regrown W4 q.d q.os
        have HK5 := Lib.hid (HK4.out.below hb2)
        clear hW2 hb2 Hcalls c1 c2 c3 c4 c5 hwq
        go_wp2_with fail
        go_roundw
        case rel => exact ⟨k + 1, _, _, _, _, _, _, by omega, by go_num, HK5.out⟩
        case measure => simp [intOf]; omega
      | false =>
        by_cases hz : fl4 = 0
        · subst hz
          repeat (go_big_quiet_step (first | (go_at_call 45; exact (Hcalls.out _).1) | (go_at_call 48; exact (Hcalls.out _).2.1) | (go_at_call 46; exact (Hcalls.out _).2.2.1) | (go_at_call 49; exact (Hcalls.out _).2.2.2.1) | (go_at_call 50; exact (Hcalls.out _).2.2.2.2)))
          refine wpQuiet_nil ?_
          intro W2 hW2
          have hb2 : Below W4.heap.size W4 W2 := by obtain ⟨q, rfl⟩ := hW2; exact below_regrown W4 q.d q.os
          have HK5 := Lib.hid (HK4.out.below hb2)
          clear hW2 hb2 Hcalls c1 c2 c3 c4 c5 hwq
          go_wp2_with fail
          go_roundw
          case rel => exact ⟨k + 1, _, _, _, _, _, _, by omega, by go_num, HK5.out⟩
          case measure => simp [intOf]; omega
        · have hzb : ((fl4 : Int) == 0) = false := by simp; exact hz
          have hzi : (fl4 == 0) = false := by simpa using hz
          clear hz
          repeat (go_big_quiet_step (first | (go_at_call 45; exact (Hcalls.out _).1) | (go_at_call 48; exact (Hcalls.out _).2.1) | (go_at_call 46; exact (Hcalls.out _).2.2.1) | (go_at_call 49; exact (Hcalls.out _).2.2.2.1) | (go_at_call 50; exact (Hcalls.out _).2.2.2.2)))
          refine wpQuiet_nil ?_
          intro W2 hW2
          have hb2 : Below W4.heap.size W4 W2 := by obtain ⟨q, rfl⟩ := hW2; exact below_regrown W4 q.d q.os
          have HK5 := Lib.hid (HK4.out.below hb2)
          clear hW2 hb2 Hcalls c1 c2 c3 c4 c5 hwq
          go_wp2_with fail
          go_roundw
          case rel => exact ⟨k + 1, _, _, _, _, _, _, by omega, by go_num, HK5.out⟩
          case measure => simp [intOf]; omega
    · go_wp2_with fail
      go_ret
      exact ⟨rfl, HK.out.hb⟩

end Go.Proofs.Yteggpdhkpmkldaa
