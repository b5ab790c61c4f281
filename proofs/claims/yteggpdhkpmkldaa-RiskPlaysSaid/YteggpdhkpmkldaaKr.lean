import Derived.Test.YteggpdhkpmkldaaKq
namespace Go.Proofs.Yteggpdhkpmkldaa
open Go.RowKit

/-- The program's book and the document's, side by side. -/
structure JJ (B C : Nat) (w wr : World) (b gp gh cp br gd gw cw n c : Nat) (A : Option Addr) (ls : List Int) (ps : List Purse) (hs : List Hold) (ps2 : List Purse) (hs2 : List Hold) : Prop where
  rs : RSt B w wr b gp gh cp ls ps hs
  rf : RfAt wr B br gd gw cw A n c ls ps2 hs2
  hi : BInv ls ps2 hs2
  d1 : b < C ∧ gp < C ∧ gh < C
  d2 : C ≤ br ∧ C ≤ gd ∧ C ≤ gw
section
variable {B C : Nat} {w wr wr' : World} {b gp gh cp br gd gw cw n c : Nat} {A : Option Addr} {ls : List Int} {ps ps2 ps3 : List Purse} {hs hs2 hs3 : List Hold}
theorem JJ.prog (h : JJ B C w wr b gp gh cp br gd gw cw n c A ls ps hs ps2 hs2) (h1 : BkAt wr' b gp gh cp ps3 hs3) (h2 : BInv ls ps3 hs3) (hm : Mods (fun k => k = gp ∨ k = gh) wr wr') : JJ B C w wr' b gp gh cp br gd gw cw n c A ls ps3 hs3 ps2 hs2 := by
  have d1 := h.d1
  have d2 := h.d2
  have d3 := h.rs.h1
  exact ⟨h.rs.turned h1 h2 hm, h.rf.mods hm (fun k hk => by omega) (by omega) (by omega) (by omega), h.hi, h.d1, h.d2⟩
theorem JJ.ref (h : JJ B C w wr b gp gh cp br gd gw cw n c A ls ps hs ps2 hs2) (h1 : RfAt wr' B br gd gw cw A n c ls ps3 hs3) (h2 : BInv ls ps3 hs3) (hm : Mods (fun k => k = gd ∨ k = gw) wr wr') : JJ B C w wr' b gp gh cp br gd gw cw n c A ls ps hs ps3 hs3 := by
  have d1 := h.d1
  have d2 := h.d2
  have d3 := h.rf.hB
  exact ⟨h.rs.mods hm (fun k hk => by omega) (by omega) (by omega) (by omega), h1, h2, h.d1, h.d2⟩
theorem JJ.mods (h : JJ B C w wr b gp gh cp br gd gw cw n c A ls ps hs ps2 hs2) (hm : Mods (fun _ => False) wr wr') : JJ B C w wr' b gp gh cp br gd gw cw n c A ls ps hs ps2 hs2 :=
  ⟨h.rs.mods hm (fun _ => False.elim) id id id, h.rf.mods hm (fun _ => False.elim) id id id, h.hi, h.d1, h.d2⟩
theorem JJ.lt (h : JJ B C w wr b gp gh cp br gd gw cw n c A ls ps hs ps2 hs2) : b < wr.heap.size ∧ gp < wr.heap.size ∧ gh < wr.heap.size ∧ br < wr.heap.size ∧ gd < wr.heap.size ∧ gw < wr.heap.size :=
  ⟨h.rs.lt.1, h.rs.lt.2.1, h.rs.lt.2.2, h.rf.ho.lt, h.rf.hd.lt, h.rf.hw.elim fun _ h => h.lt⟩
end
section
variable (B C : Nat) (w : World) (b gp gh cp br gd gw cw n c : Nat) (A : Option Addr) (ls : List Int) (ps : List Purse) (hs : List Hold) (wr : World)
def T4 (gp gh gd gw k : Nat) : Prop := k = gp ∨ k = gh ∨ k = gd ∨ k = gw
/-- step's end. -/
def StepP (o : Op4) (e : Ending) (w' : World) : Prop :=
  e = .returned (.bool true) ∧ JJ B C w w' b gp gh cp br gd gw cw n c A ls (bStep ps hs o).2.1 (bStep ps hs o).2.2 (bStep ps hs o).2.1 (bStep ps hs o).2.2 ∧ Mods (T4 gp gh gd gw) wr w'

set_option maxHeartbeats 4000000 in
set_option maxRecDepth 100000 in
theorem rStep_any (o : Op4) (h : JJ B C w wr b gp gh cp br gd gw cw n c A ls ps hs ps hs) :
    Calls Try.prog 31 #[.pointer (some ⟨b, 0, none⟩), .pointer (some ⟨br, 0, none⟩), .agg #[.int .i64 o.1, .int .i64 o.2.1, .int .i64 o.2.2.1, .int .i64 o.2.2.2]] wr fun e w' => StepP B C w b gp gh cp br gd gw cw n c A ls ps hs wr o e w' := by
  obtain ⟨o1, o2, o3, o4⟩ := o
  simp only
  obtain ⟨z1, z2, z3, z4, z5, z6⟩ := h.lt
  have hJ := h.mods ((Mods.refl _ wr).alloc (.cells #[.int .i64 o1, .int .i64 o2, .int .i64 o3, .int .i64 o4] 57))
  have hO := Ob.new wr 57 [.int .i64 o1, .int .i64 o2, .int .i64 o3, .int .i64 o4]
  have hM0 := (Mods.refl (T4 gp gh gd gw) wr).alloc (.cells #[.int .i64 o1, .int .i64 o2, .int .i64 o3, .int .i64 o4] 57)
  have HJ := Lib.hid hJ
  have HO := Lib.hid hO
  have HM := Lib.hid hM0
  clear h hJ hO hM0
  by_cases k1 : o1 = 1
  · subst k1
    have E := Lib.hid (show bStep ps hs (1, o2, o3, o4) = bRes ps hs o2 o3 o4 from if_pos rfl)
    skip
    go_enter Try.func31, Try.ntmps31
    go_upto_region 3 with (fail)
    generalize hW : wr.alloc (.cells #[.int .i64 1, .int .i64 o2, .int .i64 o3, .int .i64 o4] 57) = W at *
    clear hW
    generalize wr.heap.size = N at *
    have hc1 : ∀ k, Calls Try.prog 25 #[.pointer (some ⟨b, 0, none⟩), .int .i64 o2, .int .i64 o3, .int .i64 o4] (W.drewN k) fun e w' => e = .returned (.int .i64 (bRes ps hs o2 o3 o4).1) ∧ JJ B C w w' b gp gh cp br gd gw cw n c A ls (bRes ps hs o2 o3 o4).2.1 (bRes ps hs o2 o3 o4).2.2 ps hs ∧ Ob w' N 57 [.int .i64 1, .int .i64 o2, .int .i64 o3, .int .i64 o4] ∧ Mods (T4 gp gh gd gw) wr w' := fun k =>
      (kReserve_any (W.drewN k) b gp gh cp ls ps hs o2 o3 o4 (HJ.out.rs.hB.drewN k) HJ.out.rs.hI).mono fun e w' ⟨q0, q1, q2, q3⟩ => ⟨q0, (HJ.out.mods ((Mods.refl _ W).drewN k)).prog q1 q2 q3, (HO.out.drewN k).mods q3 (fun h => by omega), (HM.out.drewN k).trans (q3.mono fun k _ h => h.elim .inl (fun h => .inr (.inl h)))⟩
    have Hc1 := Lib.hid hc1
    have hoc := HO.out.cell
    have f1 : W.cell? ⟨N, 1, none⟩ = some (.int .i64 o2) := hoc 1
    have f2 : W.cell? ⟨N, 2, none⟩ = some (.int .i64 o3) := hoc 2
    have f3 : W.cell? ⟨N, 3, none⟩ = some (.int .i64 o4) := hoc 3
    clear hc1 hoc
    go_region_held3 (fun w' => w'.cell? ⟨N, 1, none⟩ = some (.int .i64 o2) ∧ w'.cell? ⟨N, 2, none⟩ = some (.int .i64 o3) ∧ w'.cell? ⟨N, 3, none⟩ = some (.int .i64 o4)) (first | exact ⟨f1, f2, f3⟩ | exact ⟨g1, g2, g3⟩ | exact ⟨k1, k2, k3⟩ | go_keep)
      (first
        | (go_at_call 25; refine (Hc1.out _).mono ?_; rintro e w4 ⟨rfl, hJ4, hO4, hM4⟩; have HM4 := Lib.hid hM4; have HJ4 := Lib.hid hJ4; have HO4 := Lib.hid hO4; have g1 := hO4.cell 1; have g2 := hO4.cell 2; have g3 := hO4.cell 3; clear hJ4 hO4 hM4)
        | (go_at_call 62; refine (rReserve_any w4 B br gd gw cw n c A ls ps hs o2 o3 o4 HJ4.out.rf HJ4.out.hi).mono ?_; rintro e w5 ⟨rfl, hR5, hm5⟩; have HJ5 := Lib.hid (HJ4.out.ref hR5 HJ4.out.rs.hI hm5); have HM5 := Lib.hid (HM4.out.trans (hm5.mono fun k _ h => .inr (.inr h))); have k1 := (HO4.out.mods hm5 (fun h => by omega)).cell 1; have k2 := (HO4.out.mods hm5 (fun h => by omega)).cell 2; have k3 := (HO4.out.mods hm5 (fun h => by omega)).cell 3; clear hR5 hm5))
    go_wp2_with fail
    go_ret
    refine ⟨rfl, ?_⟩
    rw [E.out]
    exact ⟨HJ5.out, HM5.out⟩
  have k1' : (o1 == 1) = false := by simpa using k1
  by_cases k2 : o1 = 2
  · subst k2
    have E := Lib.hid (show bStep ps hs (2, o2, o3, o4) = bRsz ps hs o3 o4 from (if_neg (by simp)).trans (if_pos rfl))
    clear k1
    go_enter Try.func31, Try.ntmps31
    go_upto_region 5 with (fail)
    generalize hW : wr.alloc (.cells #[.int .i64 2, .int .i64 o2, .int .i64 o3, .int .i64 o4] 57) = W at *
    clear hW
    generalize wr.heap.size = N at *
    have hc1 : ∀ k, Calls Try.prog 26 #[.pointer (some ⟨b, 0, none⟩), .int .i64 o3, .int .i64 o4] (W.drewN k) fun e w' => e = .returned (.int .i64 (bRsz ps hs o3 o4).1) ∧ JJ B C w w' b gp gh cp br gd gw cw n c A ls (bRsz ps hs o3 o4).2.1 (bRsz ps hs o3 o4).2.2 ps hs ∧ Ob w' N 57 [.int .i64 2, .int .i64 o2, .int .i64 o3, .int .i64 o4] ∧ Mods (T4 gp gh gd gw) wr w' := fun k =>
      (kResize_any (W.drewN k) b gp gh cp ls ps hs o3 o4 (HJ.out.rs.hB.drewN k) HJ.out.rs.hI).mono fun e w' ⟨q0, q1, q2, q3⟩ => ⟨q0, (HJ.out.mods ((Mods.refl _ W).drewN k)).prog q1 q2 q3, (HO.out.drewN k).mods q3 (fun h => by omega), (HM.out.drewN k).trans (q3.mono fun k _ h => h.elim .inl (fun h => .inr (.inl h)))⟩
    have Hc1 := Lib.hid hc1
    have hoc := HO.out.cell
    have f2 : W.cell? ⟨N, 2, none⟩ = some (.int .i64 o3) := hoc 2
    have f3 : W.cell? ⟨N, 3, none⟩ = some (.int .i64 o4) := hoc 3
    clear hc1 hoc
    go_region_held3 (fun w' => w'.cell? ⟨N, 2, none⟩ = some (.int .i64 o3) ∧ w'.cell? ⟨N, 3, none⟩ = some (.int .i64 o4)) (first | exact ⟨f2, f3⟩ | exact ⟨g2, g3⟩ | exact ⟨k2, k3⟩ | go_keep)
      (first
        | (go_at_call 26; refine (Hc1.out _).mono ?_; rintro e w4 ⟨rfl, hJ4, hO4, hM4⟩; have HM4 := Lib.hid hM4; have HJ4 := Lib.hid hJ4; have HO4 := Lib.hid hO4; have g2 := hO4.cell 2; have g3 := hO4.cell 3; clear hJ4 hO4 hM4)
        | (go_at_call 63; refine (rResize_any w4 B br gd gw cw n c A ls ps hs o3 o4 HJ4.out.rf HJ4.out.hi).mono ?_; rintro e w5 ⟨rfl, hR5, hm5⟩; have HJ5 := Lib.hid (HJ4.out.ref hR5 HJ4.out.rs.hI hm5); have HM5 := Lib.hid (HM4.out.trans (hm5.mono fun k _ h => .inr (.inr h))); have k2 := (HO4.out.mods hm5 (fun h => by omega)).cell 2; have k3 := (HO4.out.mods hm5 (fun h => by omega)).cell 3; clear hR5 hm5))
    go_wp2_with fail
    go_ret
    refine ⟨rfl, ?_⟩
    rw [E.out]
    exact ⟨HJ5.out, HM5.out⟩
  have k2' : (o1 == 2) = false := by simpa using k2
  by_cases k3 : o1 = 3
  · subst k3
    have E := Lib.hid (show bStep ps hs (3, o2, o3, o4) = bStl ps hs o3 o4 from (if_neg (by simp)).trans ((if_neg (by simp)).trans (if_pos rfl)))
    clear k1 k2
    go_enter Try.func31, Try.ntmps31
    go_upto_region 7 with (fail)
    generalize hW : wr.alloc (.cells #[.int .i64 3, .int .i64 o2, .int .i64 o3, .int .i64 o4] 57) = W at *
    clear hW
    generalize wr.heap.size = N at *
    have hc1 : ∀ k, Calls Try.prog 27 #[.pointer (some ⟨b, 0, none⟩), .int .i64 o3, .int .i64 o4] (W.drewN k) fun e w' => e = .returned (.int .i64 (bStl ps hs o3 o4).1) ∧ JJ B C w w' b gp gh cp br gd gw cw n c A ls (bStl ps hs o3 o4).2.1 (bStl ps hs o3 o4).2.2 ps hs ∧ Ob w' N 57 [.int .i64 3, .int .i64 o2, .int .i64 o3, .int .i64 o4] ∧ Mods (T4 gp gh gd gw) wr w' := fun k =>
      (kSettle_any (W.drewN k) b gp gh cp ls ps hs o3 o4 (HJ.out.rs.hB.drewN k) HJ.out.rs.hI).mono fun e w' ⟨q0, q1, q2, q3⟩ => ⟨q0, (HJ.out.mods ((Mods.refl _ W).drewN k)).prog q1 q2 q3, (HO.out.drewN k).mods q3 (fun h => by omega), (HM.out.drewN k).trans (q3.mono fun k _ h => h.elim .inl (fun h => .inr (.inl h)))⟩
    have Hc1 := Lib.hid hc1
    have hoc := HO.out.cell
    have f2 : W.cell? ⟨N, 2, none⟩ = some (.int .i64 o3) := hoc 2
    have f3 : W.cell? ⟨N, 3, none⟩ = some (.int .i64 o4) := hoc 3
    clear hc1 hoc
    go_region_held3 (fun w' => w'.cell? ⟨N, 2, none⟩ = some (.int .i64 o3) ∧ w'.cell? ⟨N, 3, none⟩ = some (.int .i64 o4)) (first | exact ⟨f2, f3⟩ | exact ⟨g2, g3⟩ | exact ⟨k2, k3⟩ | go_keep)
      (first
        | (go_at_call 27; refine (Hc1.out _).mono ?_; rintro e w4 ⟨rfl, hJ4, hO4, hM4⟩; have HM4 := Lib.hid hM4; have HJ4 := Lib.hid hJ4; have HO4 := Lib.hid hO4; have g2 := hO4.cell 2; have g3 := hO4.cell 3; clear hJ4 hO4 hM4)
        | (go_at_call 64; refine (rSettle_any w4 B br gd gw cw n c A ls ps hs o3 o4 HJ4.out.rf HJ4.out.hi).mono ?_; rintro e w5 ⟨rfl, hR5, hm5⟩; have HJ5 := Lib.hid (HJ4.out.ref hR5 HJ4.out.rs.hI hm5); have HM5 := Lib.hid (HM4.out.trans (hm5.mono fun k _ h => .inr (.inr h))); have k2 := (HO4.out.mods hm5 (fun h => by omega)).cell 2; have k3 := (HO4.out.mods hm5 (fun h => by omega)).cell 3; clear hR5 hm5))
    go_wp2_with fail
    go_ret
    refine ⟨rfl, ?_⟩
    rw [E.out]
    exact ⟨HJ5.out, HM5.out⟩
  have k3' : (o1 == 3) = false := by simpa using k3
  by_cases k4 : o1 = 4
  · subst k4
    have E := Lib.hid (show bStep ps hs (4, o2, o3, o4) = bUnd ps hs o2 o4 from (if_neg (by simp)).trans ((if_neg (by simp)).trans ((if_neg (by simp)).trans (if_pos rfl))))
    clear k1 k2 k3
    go_enter Try.func31, Try.ntmps31
    go_upto_region 9 with (fail)
    generalize hW : wr.alloc (.cells #[.int .i64 4, .int .i64 o2, .int .i64 o3, .int .i64 o4] 57) = W at *
    clear hW
    generalize wr.heap.size = N at *
    have hc1 : ∀ k, Calls Try.prog 34 #[.pointer (some ⟨b, 0, none⟩), .int .i64 o2, .int .i64 o4] (W.drewN k) fun e w' => e = .returned (.int .i64 (bUnd ps hs o2 o4).1) ∧ JJ B C w w' b gp gh cp br gd gw cw n c A ls (bUnd ps hs o2 o4).2.1 (bUnd ps hs o2 o4).2.2 ps hs ∧ Ob w' N 57 [.int .i64 4, .int .i64 o2, .int .i64 o3, .int .i64 o4] ∧ Mods (T4 gp gh gd gw) wr w' := fun k =>
      (kUndo_any (W.drewN k) b gp gh cp ls ps hs o2 o4 (HJ.out.rs.hB.drewN k) HJ.out.rs.hI).mono fun e w' ⟨q0, q1, q2, q3⟩ => ⟨q0, (HJ.out.mods ((Mods.refl _ W).drewN k)).prog q1 q2 q3, (HO.out.drewN k).mods q3 (fun h => by omega), (HM.out.drewN k).trans (q3.mono fun k _ h => h.elim .inl (fun h => .inr (.inl h)))⟩
    have Hc1 := Lib.hid hc1
    have hoc := HO.out.cell
    have f1 : W.cell? ⟨N, 1, none⟩ = some (.int .i64 o2) := hoc 1
    have f3 : W.cell? ⟨N, 3, none⟩ = some (.int .i64 o4) := hoc 3
    clear hc1 hoc
    go_region_held3 (fun w' => w'.cell? ⟨N, 1, none⟩ = some (.int .i64 o2) ∧ w'.cell? ⟨N, 3, none⟩ = some (.int .i64 o4)) (first | exact ⟨f1, f3⟩ | exact ⟨g1, g3⟩ | exact ⟨k1, k3⟩ | go_keep)
      (first
        | (go_at_call 34; refine (Hc1.out _).mono ?_; rintro e w4 ⟨rfl, hJ4, hO4, hM4⟩; have HM4 := Lib.hid hM4; have HJ4 := Lib.hid hJ4; have HO4 := Lib.hid hO4; have g1 := hO4.cell 1; have g3 := hO4.cell 3; clear hJ4 hO4 hM4)
        | (go_at_call 65; refine (rUndo_any w4 B br gd gw cw n c A ls ps hs o2 o4 HJ4.out.rf HJ4.out.hi).mono ?_; rintro e w5 ⟨rfl, hR5, hm5⟩; have HJ5 := Lib.hid (HJ4.out.ref hR5 HJ4.out.rs.hI hm5); have HM5 := Lib.hid (HM4.out.trans (hm5.mono fun k _ h => .inr (.inr h))); have k1 := (HO4.out.mods hm5 (fun h => by omega)).cell 1; have k3 := (HO4.out.mods hm5 (fun h => by omega)).cell 3; clear hR5 hm5))
    go_wp2_with fail
    go_ret
    refine ⟨rfl, ?_⟩
    rw [E.out]
    exact ⟨HJ5.out, HM5.out⟩
  have k4' : (o1 == 4) = false := by simpa using k4
  have E := Lib.hid (show bStep ps hs (o1, o2, o3, o4) = (0, ps, hs) from (if_neg k1).trans ((if_neg k2).trans ((if_neg k3).trans (if_neg k4))))
  clear k1 k2 k3 k4
  go_enter Try.func31, Try.ntmps31
  go_wp2_with fail
  go_ret
  refine ⟨rfl, ?_⟩
  rw [E.out]
  exact ⟨HJ.out, HM.out⟩
end

end Go.Proofs.Yteggpdhkpmkldaa
