import Derived.Test.YteggpdhkpmkldaaKc
namespace Go.Proofs.Yteggpdhkpmkldaa
open Go.RowKit

section
variable {w : World} {b gp gh cp : Nat} {ps : List Purse} {hs : List Hold}
theorem BkAt.is_ (h : BkAt w b gp gh cp ps hs) (k : Nat) : Calls Try.prog 56 #[.pointer (some ⟨b, 0, none⟩)] (w.drewN k) fun e w' => e = .returned (.bool true) ∧ w.drewN k = w' :=
  kIs_any _ b ps.length cp _ true (h.ho.cell 0) (by have := h.hps; simp; omega)
theorem BkAt.account_ (h : BkAt w b gp gh cp ps hs) (i : Int) (r : Bool) (hr : inB ps.length i = r) (k : Nat) : Calls Try.prog 57 #[.pointer (some ⟨b, 0, none⟩), .int .i64 i] (w.drewN k) fun e w' => e = .returned (.bool r) ∧ ∃ k, w' = w.drewN k :=
  (kAccount_any (w.drewN k) b ps.length cp _ i (h.ho.cell 0) h.hps.1 h.hps.2 r hr).mono fun _ _ ⟨he, j, hw⟩ => ⟨he, k + j, by rw [hw, World.drewN_drewN]⟩
theorem BkAt.slot_ (h : BkAt w b gp gh cp ps hs) (i : Int) (r : Bool) (hr : inB hs.length i = r) (k : Nat) : Calls Try.prog 58 #[.pointer (some ⟨b, 0, none⟩), .int .i64 i] (w.drewN k) fun e w' => e = .returned (.bool r) ∧ ∃ k, w' = w.drewN k :=
  (kSlot_any (w.drewN k) b ps.length cp hs.length hs.length _ _ i (h.ho.cell 0) (h.ho.cell 1) h.hps.1 h.hhs.2 r hr).mono fun _ _ ⟨he, j, hw⟩ => ⟨he, k + j, by rw [hw, World.drewN_drewN]⟩
theorem BkAt.ps3 (h : BkAt w b gp gh cp ps hs) {a : Nat} {p : Purse} (hp : ps[a]? = some p) : w.cell? ⟨gp, a * 3, none⟩ = some (.int .i64 p.1) ∧ w.cell? ⟨gp, a * 3 + 1, none⟩ = some (.int .i64 p.2.1) ∧ w.cell? ⟨gp, a * 3 + 2, none⟩ = some (.int .i64 p.2.2) := ⟨h.pcell hp 0 (by omega), h.pcell hp 1 (by omega), h.pcell hp 2 (by omega)⟩
theorem BkAt.hs3 (h : BkAt w b gp gh cp ps hs) {a : Nat} {p : Hold} (hp : hs[a]? = some p) : w.cell? ⟨gh, a * 3, none⟩ = some (.bool p.1) ∧ w.cell? ⟨gh, a * 3 + 1, none⟩ = some (.int .i64 p.2.1) ∧ w.cell? ⟨gh, a * 3 + 2, none⟩ = some (.int .i64 p.2.2) := ⟨h.hcell hp 0 (by omega), h.hcell hp 1 (by omega), h.hcell hp 2 (by omega)⟩
theorem inB_lt {n a : Nat} (h : a < n) : inB n (a : Int) = true := by unfold inB; simp; omega
theorem inB_cases (n : Nat) (i : Int) : inB n i = false ∨ ∃ a : Nat, i = a ∧ a < n := by
  by_cases h : 0 ≤ i ∧ i < n
  · exact .inr ⟨i.toNat, by omega, by omega⟩
  · exact .inl (by unfold inB; simp; omega)
end

set_option maxHeartbeats 400000 in
theorem kUsed_in (w : World) (b gp gh cp a : Nat) (ps : List Purse) (hs : List Hold) (p : Purse) (h : BkAt w b gp gh cp ps hs) (hp : ps[a]? = some p) (ho : POk p) : Calls Try.prog 28 #[.pointer (some ⟨b, 0, none⟩), .int .i64 a] w fun e w' => e = .returned (.int .i64 (p.2.1 + p.2.2)) ∧ ∃ k, w' = w.drewN k := by
  have hlt : a < ps.length := (List.getElem?_eq_some_iff.1 hp).1
  obtain ⟨o1, o2, o3, o4, o5⟩ := ho
  have hw : IntKind.i64.wrap (p.2.1 + p.2.2) = p.2.1 + p.2.2 := by rw [IntWalk.i64_in _ (by omega)]
  have hc := h.ho.cell
  obtain ⟨c0, c1, c2⟩ := h.ps3 hp
  have HP := Lib.hid h
  have hac := inB_lt hlt
  have HA := Lib.hid hac
  clear h hac hp
  go_enter Try.func28, Try.ntmps28
  go_wp2_with fail
  refine (HP.out.account_ a true HA.out 0).mono ?_
  rintro e w' ⟨rfl, k, rfl⟩
  go_wp2_with fail
  go_quiet (fail)
  go_wp2_with fail
  go_ret
  exact ⟨rfl, _, World.drewN_drewN _ _ _⟩
set_option maxHeartbeats 400000 in
theorem kRealised_in (w : World) (b gp gh cp a : Nat) (ps : List Purse) (hs : List Hold) (p : Purse) (h : BkAt w b gp gh cp ps hs) (hp : ps[a]? = some p) : Calls Try.prog 35 #[.pointer (some ⟨b, 0, none⟩), .int .i64 a] w fun e w' => e = .returned (.int .i64 p.2.2) ∧ ∃ k, w' = w.drewN k := by
  have hlt : a < ps.length := (List.getElem?_eq_some_iff.1 hp).1
  have hc := h.ho.cell
  obtain ⟨c0, c1, c2⟩ := h.ps3 hp
  have HP := Lib.hid h
  have hac := inB_lt hlt
  have HA := Lib.hid hac
  clear h hac hp
  go_enter Try.func35, Try.ntmps35
  go_wp2_with fail
  refine (HP.out.account_ a true HA.out 0).mono ?_
  rintro e w' ⟨rfl, k, rfl⟩
  go_wp2_with fail
  go_ret
  exact ⟨rfl, _, rfl⟩
set_option maxHeartbeats 400000 in
theorem kLeft_in (w : World) (b gp gh cp a : Nat) (ps : List Purse) (hs : List Hold) (p : Purse) (h : BkAt w b gp gh cp ps hs) (hp : ps[a]? = some p) (ho : POk p) : Calls Try.prog 36 #[.pointer (some ⟨b, 0, none⟩), .int .i64 a] w fun e w' => e = .returned (.int .i64 (p.1 - p.2.1 - p.2.2)) ∧ Mods (fun _ => False) w w' := by
  have hlt : a < ps.length := (List.getElem?_eq_some_iff.1 hp).1
  obtain ⟨o1, o2, o3, o4, o5⟩ := ho
  have hc := h.ho.cell
  obtain ⟨c0, c1, c2⟩ := h.ps3 hp
  have HP := Lib.hid h
  have hac := inB_lt hlt
  have HA := Lib.hid hac
  clear h hac hp
  go_enter Try.func36, Try.ntmps36
  go_wp2_with fail
  refine (HP.out.account_ a true HA.out 0).mono ?_
  rintro e w' ⟨rfl, k, rfl⟩
  go_wp2_with fail
  refine (kLeft_any _ p.1 p.2.1 p.2.2 (by omega) (by omega)).mono ?_
  rintro e w' ⟨rfl, k2, rfl⟩
  go_wp2_with fail
  go_ret
  exact ⟨rfl, (((Mods.refl _ w).drewN k).alloc _).drewN k2⟩
set_option maxHeartbeats 400000 in
theorem kHeld_in (w : World) (b gp gh cp s : Nat) (ps : List Purse) (hs : List Hold) (x : Hold) (h : BkAt w b gp gh cp ps hs) (hp : hs[s]? = some x) : Calls Try.prog 33 #[.pointer (some ⟨b, 0, none⟩), .int .i64 s] w fun e w' => e = .returned (.tuple #[.int .i64 x.2.1, .int .i64 x.2.2, .bool x.1]) ∧ Mods (fun _ => False) w w' := by
  have hlt : s < hs.length := (List.getElem?_eq_some_iff.1 hp).1
  have HP := Lib.hid h
  have hac := inB_lt hlt
  have HA := Lib.hid hac
  have Hp := Lib.hid hp
  clear h hac hp
  go_enter Try.func33, Try.ntmps33
  go_wp2_with fail
  refine (HP.out.slot_ s true HA.out 0).mono ?_
  rintro e w' ⟨rfl, k, rfl⟩
  go_upto_region 3 with (fail)
  refine cutW (fun W => BkAt W b gp gh cp ps hs ∧ Mods (fun _ => False) w W) ⟨HP.out.drewN k, (Mods.refl _ w).drewN k⟩ ?_
  rintro W ⟨hB, hM⟩
  have hc := hB.ho.cell
  obtain ⟨c0, c1, c2⟩ := hB.hs3 Hp.out
  clear hB
  go_wp2_with fail
  go_quiet (fail)
  go_wp2_with fail
  go_ret3
  exact ⟨rfl, (hM.alloc _).drewN _⟩

end Go.Proofs.Yteggpdhkpmkldaa
