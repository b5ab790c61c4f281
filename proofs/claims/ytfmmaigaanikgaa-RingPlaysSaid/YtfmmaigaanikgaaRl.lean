import Derived.Test.YtfmmaigaanikgaaRk
import Derived.Test.YtfmmaigaanikgaaRnO
namespace Go.Proofs.Ytfmmaigaanikgaa
open Go.RowKit Go.Shelf



set_option maxHeartbeats 400000 in
set_option maxRecDepth 100000 in
theorem ringPlays_out (w : World) (room most : Int) (A : Option Addr) (n c : Nat) (h9 : n ≤ 9223372036854775807) (h : 200 < n ∨ room < 1 ∨ 1024 < room) :
    Calls Try.prog 13 #[.int .i64 room, .slice A n c, .int .i64 most] w fun e w' => e = .returned (.bool true) ∧ Below w.heap.size w w' := by
  by_cases h1 : 200 < n
  · clear h
    go_enter Try.func13, Try.ntmps13
    go_wp2_with (go_at_call 32; refine (awake05 _).mono ?_; rintro e w' ⟨rfl, hbw⟩)
    go_ret
    exact ⟨rfl, hbw⟩
  replace h := h.resolve_left h1
  have H := Lib.hid h
  by_cases h2 : room < 1
  · clear h
    go_enter Try.func13, Try.ntmps13
    go_wp2_with (first | (go_at_call 32; refine (awake05 _).mono ?_; rintro e w' ⟨rfl, hbw⟩) | (go_at_call 45; refine (RINew_no _ _ H.out).mono ?_; rintro e w' ⟨rfl, rfl⟩))
    go_ret
    exact ⟨rfl, hbw⟩
  replace h := h.resolve_left h2
  go_enter Try.func13, Try.ntmps13
  go_wp2_with (first | (go_at_call 32; refine (awake05 _).mono ?_; rintro e w' ⟨rfl, hbw⟩) | (go_at_call 45; refine (RINew_no _ _ H.out).mono ?_; rintro e w' ⟨rfl, rfl⟩))
  go_ret
  exact ⟨rfl, hbw⟩

set_option maxHeartbeats 4000000 in
set_option maxRecDepth 100000 in
theorem ringPlays_in (w : World) (R : Nat) (most : Int) (A : Option Addr) (n c : Nat) (ops : List (Int × Int)) (hr : Rd w A n 2 (ops.flatMap rOp2)) (hl : ops.length = n) (h1 : n ≤ 200) (h2 : 1 ≤ R) (h3 : R ≤ 1024) :
    Calls Try.prog 13 #[.int .i64 R, .slice A n c, .int .i64 most] w fun e w' => e = .returned (.bool true) ∧ Below w.heap.size w w' := by
  have HR := Lib.hid hr
  have HL := Lib.hid hl
  clear hr hl
  go_enter Try.func13, Try.ntmps13
  go_wp2_with fail
  refine (awake05 _).mono ?_
  rintro e w1 ⟨rfl, hb1⟩
  have Hb1 := Lib.hid hb1
  clear hb1
  go_wp2_with fail
  refine (RINew_yes w1 R h2 h3).mono ?_
  rintro e w2 ⟨rfl, hI, hb2⟩
  have hg1 := hI.ho.lt
  have hg2 := hI.hg.lt
  have hb12 := Hb1.out.trans (hb2.mono Hb1.out.size)
  have hP : RPl (w2.alloc (.cells #[.int .i64 R, .slice none 0 0] 79)).heap.size w (w2.alloc (.cells #[.int .i64 R, .slice none 0 0] 79)) R (w1.heap.size + 1) w1.heap.size w2.heap.size [] :=
    ⟨⟨_, _, hI.mods ((Mods.refl (fun _ => False) w2).alloc _) id id⟩, ⟨_, ⟨Ob.new w2 79 _, own_nil _ _ _ _, by simp⟩, fun k hk => by cases hk⟩, hb12.alloc hb12.size _, by have := Hb1.out.size; omega⟩
  have HP := Lib.hid hP
  clear hP hI hb2 hb12
  go_wp2_with fail
  generalize w1.heap.size + 1 = b at *
  generalize w1.heap.size = g at *
  generalize w2.heap.size = rb at *
  go_loopw [53] (fun i wr => ∃ (k : Nat) (xs : List Int), k ≤ n ∧ i = .int .i64 k ∧ RPl wr.heap.size w wr R b g rb xs) (fun i _ => n - (intOf i).toNat)
  case atStart => exact ⟨0, _, by omega, rfl, HP.out⟩
  case round =>
    clear HP
    obtain ⟨k, xs, hk, rfl, hP⟩ := hrel
    by_cases hlt : k < n
    · obtain ⟨x, hx⟩ : ∃ x, ops[k]? = some x := ⟨_, List.getElem?_eq_getElem (by have := HL.out; omega)⟩
      obtain ⟨ga, off, hA, hbl, hcell⟩ := HR.out.2.2 (by omega)
      subst hA
      obtain ⟨o1, o2⟩ := x
      have a0 : _ = some (Value.int .i64 o1) := (hP.hb.cell (p := ⟨ga, off + k * 2, none⟩) hbl).trans (hcell _ _ (flat_at rOp2 2 (fun _ => rfl) ops k 0 _ hx (by omega)))
      have a1 : _ = some (Value.int .i64 o2) := (hP.hb.cell (p := ⟨ga, off + k * 2 + 1, none⟩) hbl).trans (hcell _ _ (flat_at rOp2 2 (fun _ => rfl) ops k 1 _ hx (by omega)))
      have HP := Lib.hid hP
      have hlt2 := hP.lt
      clear hP hcell hx
      go_upto_region 14 with (fail)
      have hO := Ob.new wr 81 [.int .i64 o1, .int .i64 o2]
      refine cutW (fun W => RPl wr.heap.size w W R b g rb xs ∧ Ob W wr.heap.size 81 [.int .i64 o1, .int .i64 o2]) ⟨HP.out.mods ((Mods.refl _ wr).alloc _), hO⟩ ?_
      clear hO HP a0 a1
      rintro W ⟨hP, hO⟩
      have hoc := hO.cell
      have HP := Lib.hid hP
      have HO := Lib.hid hO
      generalize wr.heap.size = N at *
      clear hP hO
      go_upto_block 2 with (fail)
      go_cut [] (fun wx => ∃ ys, RPl wx.heap.size w wx R b g rb ys)
      case first =>
        by_cases k1 : o1 = 1
        · subst k1
          have hc1 : ∀ j, Calls Try.prog 46 #[.pointer (some ⟨b, 0, none⟩), .int .i64 o2] (W.drewN j) fun e w' => e = .returned (.int .i64 (pPush R xs o2).1) ∧ RPm N w w' R b g rb (pPush R xs o2).2 xs ∧ Ob w' N 81 [.int .i64 1, .int .i64 o2] := fun j =>
            ((HP.out.mods ((Mods.refl _ W).drewN j)).push o2).mono fun e w' ⟨he, h1, h2⟩ => ⟨he, h1, (HO.out.drewN j).mods h2 (fun h => by omega)⟩
          have Hc1 := Lib.hid hc1
          have f1 : W.cell? ⟨N, 1, none⟩ = some (.int .i64 o2) := hoc 1
          clear hc1
          go_upto_region 16 with (fail)
          go_region_held3 (fun w' => w'.cell? ⟨N, 1, none⟩ = some (.int .i64 o2)) (first | exact f1 | exact g1 | exact g2 | go_keep)
            (first
              | (go_at_call 46; refine (Hc1.out _).mono ?_; rintro e w4 ⟨rfl, hm4, ho4⟩; have g1 := ho4.cell 1; have HM4 := Lib.hid hm4; have HO4 := Lib.hid ho4; clear hm4 ho4)
              | (go_at_call 47; refine (RPm.rpush HM4.out h3 hlt2 _ HO4.out).mono ?_; rintro e w5 ⟨rfl, hp5, ho5⟩; have g2 := ho5.cell 1; have HP5 := Lib.hid hp5; clear hp5 ho5))
          go_wp2_with fail
          go_meet
          exact ⟨_, HP5.out⟩
        have k1' : (o1 == 1) = false := by simpa using k1
        by_cases k2 : o1 = 2
        · subst k2
          clear k1
          go_wp2_with (first
            | (go_at_call 48; refine (HP.out.pop).mono ?_; rintro e w4 ⟨rfl, hm4, _⟩; have HM4 := Lib.hid hm4; clear hm4)
            | (go_at_call 49; refine (HM4.out.rpop).mono ?_; rintro e w5 ⟨rfl, hp5⟩; have HP5 := Lib.hid hp5; clear hp5))
          go_meet
          exact ⟨_, HP5.out⟩
        have k2' : (o1 == 2) = false := by simpa using k2
        by_cases k3 : o1 = 3
        · subst k3
          clear k1 k2
          go_wp2_with (first
            | (go_at_call 50; refine (HP.out.peek).mono ?_; rintro e w4 ⟨rfl, hm4⟩; have HM4 := Lib.hid (HP.out.mods hm4); clear hm4)
            | (go_at_call 51; refine (HM4.out.rpeek).mono ?_; rintro e w5 ⟨rfl, hm5⟩; have HP5 := Lib.hid (HM4.out.mods hm5); clear hm5))
          go_meet
          exact ⟨_, HP5.out.re⟩
        have k3' : (o1 == 3) = false := by simpa using k3
        clear k1 k2 k3
        go_wp2_with fail
        go_meet
        exact ⟨_, HP.out.re⟩
      case rest =>
        obtain ⟨ys, hP⟩ := hcut
        clear HP HO hoc
        obtain ⟨f, arr, hI⟩ := hP.hI
        obtain ⟨v, hr, hvT⟩ := hP.hr
        obtain ⟨A2, c2, rfl, hRd, -, -⟩ := own_shape hr.hown
        have hcalls : ∀ q : Regrown, (Calls Try.prog 52 #[.pointer (some ⟨b, 0, none⟩)] (Sort.grow (redrawn wc q.d) q.os) fun e w' => e = .returned (.int .i64 ys.length) ∧ ∃ q : Regrown, w' = Sort.grow (redrawn wc q.d) q.os) ∧ (Calls Try.prog 53 #[.pointer (some ⟨b, 0, none⟩)] (Sort.grow (redrawn wc q.d) q.os) fun e w' => e = .returned (.int .i64 ((R : Int) - ys.length)) ∧ ∃ q : Regrown, w' = Sort.grow (redrawn wc q.d) q.os) ∧ (Calls Try.prog 54 #[.pointer (some ⟨b, 0, none⟩), .slice A2 ys.length c2, .int .i64 most] (Sort.grow (redrawn wc q.d) q.os) fun e w' => e = .returned (.bool true) ∧ ∃ q : Regrown, w' = Sort.grow (redrawn wc q.d) q.os) := fun q => by
          have hm := mods_regrown wc q
          have hI5 := hI.mods hm id id
          have hb5 := below_regrown wc q.d q.os
          have h1 := RILen_any _ b g R f ys arr hI5
          have h2 := RIRoom_any _ b g R f ys arr hI5
          have h3 := rTold (Sort.grow (redrawn wc q.d) q.os) (some ⟨b, 0, none⟩) A2 ys.length c2 ys most (hRd.below hb5) rfl hr.hx (fun V Bn S hV hS hB => gives_ring 5 Bn S b g R f ys arr V hS hB (hI5.mods (Below.mods_ hV (fun _ => False)) id id))
          exact ⟨Calls.regrown_mods (h1.mono fun e w' ⟨he, hw⟩ => ⟨he, by rw [← hw]; exact Mods.refl _ _⟩), Calls.regrown_mods (h2.mono fun e w' ⟨he, j, hw⟩ => ⟨he, by rw [hw]; exact (Mods.refl _ _).drewN j⟩), Calls.regrown_mods (h3.mono fun e w' ⟨he, hb⟩ => ⟨he, Below.mods_ hb _⟩)⟩
        have hc1 : ∀ q : Regrown, (Sort.grow (redrawn wc q.d) q.os).cell? ⟨rb, 1, none⟩ = some (.slice A2 ys.length c2) := fun q => cell_regrown (hr.ho.cell 1) q.d q.os
        have Hcalls := Lib.hid hcalls
        have HP := Lib.hid hP
        have hyl := hI.hx
        generalize ys.length = m at *
        have hw1 : IntKind.i64.wrap ((R : Int) - m) = (R : Int) - m := by rw [IntWalk.i64_in _ (by omega)]
        clear hcalls hP hI hr hRd hvT
        go_upto_region 28 with (fail)
        refine wp_region_quiet_below (by kernel_rfl) (by kernel_rfl) ?_
        repeat (go_big_quiet_step (first | (go_at_call 52; exact (Hcalls.out _).1) | (go_at_call 53; exact (Hcalls.out _).2.1) | (go_at_call 54; exact (Hcalls.out _).2.2)))
        refine wpQuiet_nil ?_
        intro W2 hW2
        have hm2 : Mods (fun _ => False) wc W2 := by obtain ⟨q, rfl⟩ := hW2; exact mods_regrown wc q
        clear hW2 hc1 Hcalls
        go_wp2_with fail
        go_roundw
        case rel => exact ⟨k + 1, ys, by omega, by go_num, (HP.out.mods hm2).re⟩
        case measure => simp [intOf]; omega
    · have HP := Lib.hid hP
      clear hP
      go_wp2_with fail
      go_ret
      exact ⟨rfl, HP.out.hb⟩

theorem ringPlays_walk (w : World) (room : Int) (A : Option Addr) (n c : Nat) (ops : List (Int × Int)) (hr : Rd w A n 2 (ops.flatMap rOp2)) (hl : ops.length = n) (most : Int) :
    Calls Try.prog 13 #[.int .i64 room, .slice A n c, .int .i64 most] w fun e w' => e = .returned (.bool true) ∧ Below w.heap.size w w' := by
  by_cases h : 200 < n ∨ room < 1 ∨ 1024 < room
  · exact ringPlays_out w room most A n c hr.2.1 h
  · obtain ⟨R, rfl⟩ : ∃ k : Nat, room = k := ⟨room.toNat, by omega⟩
    exact ringPlays_in w R most A n c ops hr hl (by omega) (by omega) (by omega)

end Go.Proofs.Ytfmmaigaanikgaa
