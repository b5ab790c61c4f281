import Derived.Test.YteggpdhkpmkldaaQk
namespace Go.Proofs.Yteggpdhkpmkldaa
open Go.RowKit Go.Maps

def okXp (x : XOp) : Bool := decide (x.2.2.2.2.1.size ≤ 200) && decide (x.2.2.2.2.2.1.size ≤ 200)
def fewX (ops : List XOp) : Bool := ops.all okXp && decide (ops.length ≤ 100)
theorem xop_cells {w : World} {A : Option Addr} {n : Nat} {ops : List XOp} (hr : Rd w A n 9 (ops.flatMap xopCells)) {k : Nat} {x : XOp} (hk : k < n) (hx : ops[k]? = some x) :
    ∃ g off, A = some ⟨g, off, none⟩ ∧ g < w.heap.size ∧ ∀ j, j < 9 → w.cell? ⟨g, off + k * 9 + j, none⟩ = (xopCells x)[j]? := by
  obtain ⟨g, off, hA, hl, hc⟩ := hr.2.2 (by omega)
  refine ⟨g, off, hA, hl, fun j hj => ?_⟩
  have h1 := flat_at xopCells 9 (fun _ => rfl) ops k j x hx hj
  have hjl : j < (xopCells x).length := hj
  rw [List.getElem?_eq_getElem hjl] at h1 ⊢
  rw [Nat.add_assoc]
  exact hc _ _ h1

set_option maxHeartbeats 1600000 in
set_option maxRecDepth 100000 in
theorem few38 (w : World) (A : Option Addr) (n c : Nat) (ops : List XOp) (hr : Rd w A n 9 (ops.flatMap xopCells)) (hl : ops.length = n) :
    Calls Try.prog 38 #[.slice A n c] w fun e w' => e = .returned (.bool (fewX ops)) ∧ Below w.heap.size w w' := by
  have h9 := hr.2.1
  have HR := Lib.hid hr
  have HL := Lib.hid hl
  obtain ⟨fb, hfb⟩ : ∃ fb, fewX ops = fb := ⟨_, rfl⟩
  rw [hfb]
  have HF := Lib.hid hfb
  clear hr hl hfb
  go_enter Try.func38, Try.ntmps38
  go_wp2_with fail
  go_loopw [7] (fun i wr => ∃ (k : Nat), k ≤ n ∧ i = .int .i64 k ∧ (ops.take k).all okXp = true ∧ Below w.heap.size w wr) (fun i _ => n - (intOf i).toNat)
  case atStart => exact ⟨0, by omega, rfl, by simp, Below.refl _ _⟩
  case round =>
    obtain ⟨k, hk, rfl, hall, hB⟩ := hrel
    have HA := Lib.hid hall
    have HB := Lib.hid hB
    clear hall hB
    by_cases hlt : k < n
    · obtain ⟨x, hx⟩ : ∃ x, ops[k]? = some x := ⟨_, List.getElem?_eq_getElem (by have := HL.out; omega)⟩
      obtain ⟨g, off, hA, hbl, hcell⟩ := xop_cells HR.out hlt hx
      subst hA
      obtain ⟨kd, nn, ok, os, nm, od, sd, q, p⟩ := x
      have a : ∀ j, j < 9 → wr.cell? ⟨g, off + k * 9 + j, none⟩ = [Value.int .i64 kd, .int .i64 nn, .int .i64 ok, .int .i64 os, .string nm, .string od, .int .i64 sd, .int .i64 q, .int .i64 p][j]? := fun j hj => (HB.out.cell (p := ⟨g, off + k * 9 + j, none⟩) hbl).trans (hcell j hj)
      have a0 : wr.cell? ⟨g, off + k * 9, none⟩ = some (.int .i64 kd) := a 0 (by omega)
      have a1 : _ = some _ := a 1 (by omega)
      have a2 : _ = some _ := a 2 (by omega)
      have a3 : _ = some _ := a 3 (by omega)
      have a4 : _ = some _ := a 4 (by omega)
      have a5 : _ = some _ := a 5 (by omega)
      have a6 : _ = some _ := a 6 (by omega)
      have a7 : _ = some _ := a 7 (by omega)
      have a8 : _ = some _ := a 8 (by omega)
      have HX := Lib.hid hx
      clear hcell a hx
      go_upto_region 4 with (fail)
      have hO := Ob.new wr 87 [.int .i64 kd, .int .i64 nn, .int .i64 ok, .int .i64 os, .string nm, .string od, .int .i64 sd, .int .i64 q, .int .i64 p]
      refine cutW (fun W => Ob W wr.heap.size 87 [.int .i64 kd, .int .i64 nn, .int .i64 ok, .int .i64 os, .string nm, .string od, .int .i64 sd, .int .i64 q, .int .i64 p] ∧ Below w.heap.size w W) ⟨hO, HB.out.alloc HB.out.size _⟩ ?_
      clear hO HB a0 a1 a2 a3 a4 a5 a6 a7 a8
      generalize wr.heap.size = N at *
      rintro W ⟨hO, hB⟩
      have hc := hO.cell
      have HB := Lib.hid hB
      clear hO hB
      by_cases h1 : 200 < nm.size
      · have hf0 : fb = false := by
          rw [← HF.out]; unfold fewX
          have : ops.all okXp = false := List.all_eq_false.2 ⟨_, List.mem_of_getElem? HX.out, by simp [okXp]; omega⟩
          rw [this]; rfl
        have HF0 := Lib.hid hf0
        clear hf0
        go_wp2_with fail
        go_ret
        rw [HF0.out]
        exact ⟨rfl, HB.out⟩
      by_cases h2 : 200 < od.size
      · have hf0 : fb = false := by
          rw [← HF.out]; unfold fewX
          have : ops.all okXp = false := List.all_eq_false.2 ⟨_, List.mem_of_getElem? HX.out, by simp [okXp]; omega⟩
          rw [this]; rfl
        have HF0 := Lib.hid hf0
        clear hf0
        go_wp2_with fail
        go_ret
        rw [HF0.out]
        exact ⟨rfl, HB.out⟩
      have hok : okXp (kd, nn, ok, os, nm, od, sd, q, p) = true := by simp [okXp]; omega
      have HA2 := Lib.hid (all_take_s okXp HA.out HX.out hok)
      clear hok
      go_wp2_with fail
      go_roundw
      case rel => exact ⟨k + 1, by omega, by go_num, HA2.out, HB.out⟩
      case measure => simp [intOf]; omega
    · have hkn : k = n := by omega
      subst hkn
      have hf1 : fb = decide (k ≤ 100) := by
        rw [← HF.out]; unfold fewX
        rw [← HL.out]
        have := HA.out
        rw [← HL.out, List.take_length] at this
        rw [this]; rfl
      by_cases h100 : k ≤ 100
      · have hf2 : fb = true := by rw [hf1]; simpa using h100
        have HF2 := Lib.hid hf2
        clear hf2
        have hd : decide ((k : Int) ≤ 100) = true := by simp; omega
        clear hf1
        go_wp2_with fail
        go_ret
        rw [HF2.out]
        exact ⟨rfl, HB.out⟩
      · have hf2 : fb = false := by rw [hf1]; simpa using h100
        have HF2 := Lib.hid hf2
        clear hf2
        have hd : decide ((k : Int) ≤ 100) = false := by simp; omega
        clear hf1
        go_wp2_with fail
        go_ret
        rw [HF2.out]
        exact ⟨rfl, HB.out⟩

end Go.Proofs.Yteggpdhkpmkldaa
