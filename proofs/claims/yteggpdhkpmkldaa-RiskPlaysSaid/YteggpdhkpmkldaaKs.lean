import Derived.Test.YteggpdhkpmkldaaKr
import Derived.Test.YteggpdhkpmkldaaKm
namespace Go.Proofs.Yteggpdhkpmkldaa
open Go.RowKit

section
variable (B C : Nat) (w : World) (b gp gh cp br gd gw cw n c : Nat) (A : Option Addr) (ls : List Int) (ps : List Purse) (hs : List Hold) (w0 : World)
set_option maxHeartbeats 4000000 in
set_option maxRecDepth 100000 in
theorem rTold_any (o : Op4) (h : JJ B C w w0 b gp gh cp br gd gw cw n c A ls ps hs ps hs) :
    Calls Try.prog 32 #[.pointer (some ⟨b, 0, none⟩), .pointer (some ⟨br, 0, none⟩), .agg #[.int .i64 o.1, .int .i64 o.2.1, .int .i64 o.2.2.1, .int .i64 o.2.2.2]] w0 fun e w' => e = .returned (.bool true) ∧ Mods (fun _ => False) w0 w' := by
  obtain ⟨o1, o2, o3, o4⟩ := o
  simp only
  have hn9 := h.rf.hn
  have hh9 := h.rf.hhs
  have hpl := h.rf.hp
  obtain ⟨hnl, hn1, hn2⟩ := hn9
  have hm0 := (Mods.refl (fun _ => False) w0).alloc (.cells #[.int .i64 o1, .int .i64 o2, .int .i64 o3, .int .i64 o4] 57)
  have hJ := h.mods hm0
  have hO := Ob.new w0 57 [.int .i64 o1, .int .i64 o2, .int .i64 o3, .int .i64 o4]
  have HI := Lib.hid h.hi
  have Hnl := Lib.hid hnl
  have Hpl := Lib.hid hpl
  clear h hnl hpl
  go_enter Try.func32, Try.ntmps32
  go_upto_region 1 with (fail)
  generalize w0.alloc (.cells #[.int .i64 o1, .int .i64 o2, .int .i64 o3, .int .i64 o4] 57) = W at *
  generalize w0.heap.size = N at *
  have hc := hJ.rf.ho.cell
  have HM := Lib.hid hm0
  have HJ := Lib.hid hJ
  have HO := Lib.hid hO
  clear hm0 hJ hO
  go_wp2_with fail
  clear hc
  go_loopw [18] (fun i wx => ∃ a : Nat, a ≤ n ∧ i = .int .i64 a ∧ JJ B C w wx b gp gh cp br gd gw cw n c A ls ps hs ps hs ∧ Mods (fun _ => False) w0 wx ∧ Ob wx N 57 [.int .i64 o1, .int .i64 o2, .int .i64 o3, .int .i64 o4]) (fun i _ => n - (intOf i).toNat)
  case atStart => exact ⟨0, by omega, rfl, HJ.out, HM.out, HO.out⟩
  case round =>
    clear HJ HM HO
    obtain ⟨a, ha, rfl, hJ, hM, hO⟩ := hrel
    have HM := Lib.hid hM
    have HO := Lib.hid hO
    have HJ := Lib.hid hJ
    clear hM hO
    by_cases hlt : a < n
    · obtain ⟨x, hx⟩ : ∃ x, ls[a]? = some x := ⟨_, List.getElem?_eq_getElem (by have := Hnl.out; omega)⟩
      obtain ⟨p, hp⟩ : ∃ p, ps[a]? = some p := ⟨_, List.getElem?_eq_getElem (by have := Hpl.out; omega)⟩
      have hlp : a < ps.length := by have := Hpl.out; omega
      obtain ⟨v1, v2, v3, v4⟩ := used_lim HI.out hx
      have hb := (bUsed_le HI.out a).1
      have hR : bReal ps a = p.2.2 := by unfold bReal; rw [if_pos (inB_lt hlp), pAt_of hp]
      have hcalls : ∀ q : Regrown, (Calls Try.prog 28 #[.pointer (some ⟨b, 0, none⟩), .int .i64 a] (Sort.grow (redrawn wr q.d) q.os) fun e w' => e = .returned (.int .i64 (bUsed ps a)) ∧ ∃ q : Regrown, w' = Sort.grow (redrawn wr q.d) q.os) ∧ (Calls Try.prog 35 #[.pointer (some ⟨b, 0, none⟩), .int .i64 a] (Sort.grow (redrawn wr q.d) q.os) fun e w' => e = .returned (.int .i64 p.2.2) ∧ ∃ q : Regrown, w' = Sort.grow (redrawn wr q.d) q.os) ∧ (Calls Try.prog 36 #[.pointer (some ⟨b, 0, none⟩), .int .i64 a] (Sort.grow (redrawn wr q.d) q.os) fun e w' => e = .returned (.int .i64 (x - bUsed ps a)) ∧ ∃ q : Regrown, w' = Sort.grow (redrawn wr q.d) q.os) ∧ (Calls Try.prog 66 #[.pointer (some ⟨br, 0, none⟩), .int .i64 a] (Sort.grow (redrawn wr q.d) q.os) fun e w' => e = .returned (.int .i64 (bUsed ps a)) ∧ ∃ q : Regrown, w' = Sort.grow (redrawn wr q.d) q.os) := fun q => by
        have hJ5 := hJ.mods (mods_regrown wr q)
        have h1 := hJ5.rs.used (a : Int) 0
        have h2 := kRealised_any _ (a : Int) hJ5.rs.hB
        have h3 := kLeft_anyB _ (a : Int) hJ5.rs.hB hJ5.rs.hI
        have h4 := rUsed_in _ B br gd gw cw n c a A ls ps hs hJ5.rf hJ5.hi hlt
        rw [hR] at h2
        rw [v2] at h3
        exact ⟨Calls.regrown_mods (h1.mono fun e w' ⟨he, j, hw⟩ => ⟨he, by rw [hw]; exact (Mods.refl _ _).drewN j⟩), Calls.regrown_mods (h2.mono fun e w' ⟨he, j, hw⟩ => ⟨he, by rw [hw]; exact (Mods.refl _ _).drewN j⟩), Calls.regrown_mods h3, Calls.regrown_mods (h4.mono fun e w' ⟨he, hw⟩ => ⟨he, by rw [← hw]; exact Mods.refl _ _⟩)⟩
      have Hcalls := Lib.hid hcalls
      obtain ⟨b2, off, rfl, hbl, hl1⟩ := hJ.rf.l1 hx
      have hc0 : ∀ q : Regrown, (Sort.grow (redrawn wr q.d) q.os).cell? ⟨br, 0, none⟩ = some (.slice (some ⟨b2, off, none⟩) n c) := fun q => cell_regrown (hJ.rf.ho.cell 0) q.d q.os
      have hc1 : ∀ q : Regrown, (Sort.grow (redrawn wr q.d) q.os).cell? ⟨br, 1, none⟩ = some (.slice (some ⟨gd, 0, none⟩) n n) := fun q => cell_regrown (hJ.rf.ho.cell 1) q.d q.os
      have hc2 : ∀ q : Regrown, (Sort.grow (redrawn wr q.d) q.os).cell? ⟨b2, off + a, none⟩ = some (.int .i64 x) := fun q => cell_regrown hl1 q.d q.os
      have hc3 : ∀ q : Regrown, (Sort.grow (redrawn wr q.d) q.os).cell? ⟨gd, a, none⟩ = some (.int .i64 p.2.2) := fun q => cell_regrown (hJ.rf.d1 hp) q.d q.os
      generalize bUsed ps a = u at *
      have hw1 : IntKind.i64.wrap (x - u) = x - u := by rw [IntWalk.i64_in _ (by omega)]
      generalize p.2.2 = R at *
      clear hcalls hx hp hlp v2 hR hJ hl1
      go_upto_region 4 with (fail)
      refine wp_region_quiet_below (by kernel_rfl) (by kernel_rfl) ?_
      repeat (go_big_quiet_step (first | (go_at_call 28; exact (Hcalls.out _).1) | (go_at_call 35; exact (Hcalls.out _).2.1) | (go_at_call 36; exact (Hcalls.out _).2.2.1) | (go_at_call 66; exact (Hcalls.out _).2.2.2)))
      refine wpQuiet_nil ?_
      intro W2 hW2
      have hm2 : Mods (fun _ => False) wr W2 := by obtain ⟨q, rfl⟩ := hW2; exact mods_regrown wr q
      clear hW2 hc0 hc1 hc2 hc3 Hcalls
      go_wp2_with fail
      go_roundw
      case rel => exact ⟨a + 1, by omega, by go_num, HJ.out.mods hm2, HM.out.trans hm2, HO.out.mods hm2 id⟩
      case measure => simp [intOf]; omega
    · have hc := hJ.rf.ho.cell
      clear hJ
      go_wp2_with fail
      clear hc
      generalize hm : hs.length = m at *
      have Hm := Lib.hid hm
      clear hm
      go_loopw [64] (fun i wx => ∃ k : Nat, k ≤ m ∧ i = .int .i64 k ∧ JJ B C w wx b gp gh cp br gd gw cw n c A ls ps hs ps hs ∧ Mods (fun _ => False) w0 wx ∧ Ob wx N 57 [.int .i64 o1, .int .i64 o2, .int .i64 o3, .int .i64 o4]) (fun i _ => m - (intOf i).toNat)
      case atStart => exact ⟨0, by omega, rfl, HJ.out, HM.out, HO.out⟩
      case round =>
        clear HJ HM HO
        obtain ⟨k, hk, rfl, hJ, hM, hO⟩ := hrel
        by_cases hlt2 : k < m
        · obtain ⟨x, hx⟩ : ∃ x, hs[k]? = some x := ⟨_, List.getElem?_eq_getElem (by have := Hm.out; omega)⟩
          obtain ⟨c0, c1⟩ := hJ.rf.w2 hx
          have hhe : bHeld hs k = x := by unfold bHeld; rw [if_pos (inB_lt (by have := Hm.out; omega)), hAt_of hx]
          have hcs := HI.out.hh k x hx
          have HM := Lib.hid hM
          have HO := Lib.hid hO
          have HJ := Lib.hid hJ
          have Hhe := Lib.hid hhe
          clear hM hO hJ hhe hx
          go_upto_region 10 with (fail)
          have hOb := Ob.new wr 119 [.int .i64 (rfw x).1, .int .i64 (rfw x).2]
          refine cutW (fun W => JJ B C w W b gp gh cp br gd gw cw n c A ls ps hs ps hs ∧ Mods (fun _ => False) w0 W ∧ Ob W N 57 [.int .i64 o1, .int .i64 o2, .int .i64 o3, .int .i64 o4] ∧ Ob W wr.heap.size 119 [.int .i64 (rfw x).1, .int .i64 (rfw x).2]) ⟨HJ.out.mods ((Mods.refl _ wr).alloc _), HM.out.alloc _, HO.out.alloc _, hOb⟩ ?_
          clear HJ HM HO c0 c1 hOb
          rintro W2 ⟨hJ, hM, hO, hO2⟩
          generalize wr.heap.size = N2 at *
          have hcon := kHeld_any W2 (k : Int) hJ.rs.hB
          rw [Hhe.out] at hcon
          have HM := Lib.hid hM
          have HO := Lib.hid hO
          have HJ := Lib.hid hJ
          have HO2 := Lib.hid hO2
          have Hcon := Lib.hid hcon
          clear hM hO hJ hO2 hcon
          rcases hcs with ⟨x1, q, x2, x3, x4⟩ | rfl
          · obtain ⟨t, q', v⟩ := x
            simp only at x1 x2 x4
            subst x1 x2
            simp only [rfw, if_true] at HO2
            have hmx : max (q : Int) 0 = q := by omega
            go_wp2_with (go_at_call 33; refine Hcon.out.mono ?_; rintro e w' ⟨rfl, hm⟩; have hoc := (HO2.out.mods hm id).cell)
            go_roundw
            case rel => exact ⟨k + 1, by omega, by go_num, HJ.out.mods hm, HM.out.trans hm, HO.out.mods hm id⟩
            case measure => simp [intOf]; omega
          · have e1 : rfw hold0 = (-1, 0) := rfl
            rw [e1] at HO2
            simp only [hold0] at Hcon
            clear e1
            go_wp2_with (go_at_call 33; refine Hcon.out.mono ?_; rintro e w' ⟨rfl, hm⟩; have hoc := (HO2.out.mods hm id).cell)
            go_roundw
            case rel => exact ⟨k + 1, by omega, by go_num, HJ.out.mods hm, HM.out.trans hm, HO.out.mods hm id⟩
            case measure => simp [intOf]; omega
        · have hc := hJ.rf.ho.cell
          have hoc := hO.cell
          have HM := Lib.hid hM
          have HO := Lib.hid hO
          have HJ := Lib.hid hJ
          clear hM hO hJ
          go_upto_region 14 with (fail)
          by_cases hin : 0 ≤ o2 ∧ o2 < n
          · obtain ⟨i1, i2⟩ := hin
            have d1 : decide (o2 < 0) = false := by simpa using i1
            have d2 : decide ((n : Int) ≤ o2) = false := by simpa using i2
            go_quiet (fail)
            go_wp2_with fail
            go_ret
            exact ⟨rfl, HM.out.drewN _⟩
          · have hout : inB ps.length o2 = false := by unfold inB; rw [Hpl.out]; simp; omega
            have e1 : bUsed ps o2 = 0 := by unfold bUsed; rw [if_neg (by rw [hout]; simp)]
            have e2 : bReal ps o2 = 0 := by unfold bReal; rw [if_neg (by rw [hout]; simp)]
            have e3 : bLeft ps o2 = 0 := by unfold bLeft; rw [if_neg (by rw [hout]; simp)]
            have hcons : ∀ V, Mods (fun _ => False) wr V → (Calls Try.prog 28 #[.pointer (some ⟨b, 0, none⟩), .int .i64 o2] V fun e w' => e = .returned (.int .i64 0) ∧ Mods (fun _ => False) wr w') ∧ (Calls Try.prog 35 #[.pointer (some ⟨b, 0, none⟩), .int .i64 o2] V fun e w' => e = .returned (.int .i64 0) ∧ Mods (fun _ => False) wr w') ∧ Calls Try.prog 36 #[.pointer (some ⟨b, 0, none⟩), .int .i64 o2] V fun e w' => e = .returned (.int .i64 0) ∧ Mods (fun _ => False) wr w' := fun V hV => by
              have hJ5 := HJ.out.mods hV
              have h1 := hJ5.rs.used o2 0
              have h2 := kRealised_any _ o2 hJ5.rs.hB
              have h3 := kLeft_anyB _ o2 hJ5.rs.hB hJ5.rs.hI
              rw [e1] at h1
              rw [e2] at h2
              rw [e3] at h3
              exact ⟨h1.mono fun e w' ⟨he, j, hw⟩ => ⟨he, by rw [hw]; exact hV.drewN j⟩, h2.mono fun e w' ⟨he, j, hw⟩ => ⟨he, by rw [hw]; exact hV.drewN j⟩, h3.mono fun e w' ⟨he, hm⟩ => ⟨he, hV.trans hm⟩⟩
            have Hc := Lib.hid hcons
            clear e1 e2 e3 hout hcons
            by_cases hneg : o2 < 0
            · have d1 : decide (o2 < 0) = true := by simpa using hneg
              clear hin
              go_quiet (fail)
              go_wp2_with (first
                | (go_at_call 28; refine (Hc.out _ ((Mods.refl _ _).drewN _)).1.mono ?_; rintro e w5 ⟨rfl, hm5⟩; have ho5 := (HO.out.mods hm5 id).cell)
                | (go_at_call 35; refine (Hc.out _ hm5).2.1.mono ?_; rintro e w6 ⟨rfl, hm6⟩; have ho6 := (HO.out.mods hm6 id).cell)
                | (go_at_call 36; refine (Hc.out _ hm6).2.2.mono ?_; rintro e w7 ⟨rfl, hm7⟩))
              go_ret
              exact ⟨rfl, HM.out.trans hm7⟩
            · have d1 : decide (o2 < 0) = false := by simpa using hneg
              have d2 : decide ((n : Int) ≤ o2) = true := by simp; omega
              clear hin
              go_quiet (fail)
              go_wp2_with (first
                | (go_at_call 28; refine (Hc.out _ ((Mods.refl _ _).drewN _)).1.mono ?_; rintro e w5 ⟨rfl, hm5⟩; have ho5 := (HO.out.mods hm5 id).cell)
                | (go_at_call 35; refine (Hc.out _ hm5).2.1.mono ?_; rintro e w6 ⟨rfl, hm6⟩; have ho6 := (HO.out.mods hm6 id).cell)
                | (go_at_call 36; refine (Hc.out _ hm6).2.2.mono ?_; rintro e w7 ⟨rfl, hm7⟩))
              go_ret
              exact ⟨rfl, HM.out.trans hm7⟩
end

end Go.Proofs.Yteggpdhkpmkldaa
