import Derived.Test.YtjhlaifflhjafaaNn
import Derived.Test.YtjhlaifflhjafaaMaO
namespace Go.Proofs.Ytjhlaifflhjafaa
open Go.RowKit

abbrev MOp := Int × ByteArray × Int × Int × Int

def okMa (x : MOp) : Bool := decide (x.2.1.size ≤ 100)
def fewM (ops : List MOp) (most : Nat) : Bool := ops.all okMa && decide (ops.length ≤ most)
theorem all_take_m {α : Type} {l : List α} {k : Nat} {x : α} (f : α → Bool) (h : (l.take k).all f = true) (hx : l[k]? = some x) (hf : f x = true) : (l.take (k + 1)).all f = true := by
  rw [List.take_add_one, hx, List.all_append, h]
  simp [hf]
theorem mop_cells {w : World} {A : Option Addr} {n : Nat} {ops : List MOp} (hr : Rd w A n 5 (ops.flatMap maCells)) {k : Nat} {x : MOp} (hk : k < n) (hx : ops[k]? = some x) :
    ∃ g off, A = some ⟨g, off, none⟩ ∧ g < w.heap.size ∧ ∀ j, j < 5 → w.cell? ⟨g, off + k * 5 + j, none⟩ = (maCells x)[j]? := by
  obtain ⟨g, off, hA, hl, hc⟩ := hr.2.2 (by omega)
  refine ⟨g, off, hA, hl, fun j hj => ?_⟩
  have h1 := flat_at maCells 5 (fun _ => rfl) ops k j x hx hj
  have hjl : j < (maCells x).length := hj
  rw [List.getElem?_eq_getElem hjl] at h1 ⊢
  rw [Nat.add_assoc]
  exact hc _ _ h1

set_option maxHeartbeats 1600000 in
set_option maxRecDepth 100000 in
theorem few43 (w : World) (A : Option Addr) (n c : Nat) (ops : List MOp) (hr : Rd w A n 5 (ops.flatMap maCells)) (hl : ops.length = n) (most : Nat) :
    Calls Try.prog 43 #[.slice A n c, .int .i64 most] w fun e w' => e = .returned (.bool (fewM ops most)) ∧ Below w.heap.size w w' := by
  have h9 := hr.2.1
  have HR := Lib.hid hr
  have HL := Lib.hid hl
  obtain ⟨fb, hfb⟩ : ∃ fb, fewM ops most = fb := ⟨_, rfl⟩
  rw [hfb]
  have HF := Lib.hid hfb
  clear hr hl hfb
  go_enter Try.func43, Try.ntmps43
  go_wp2_with fail
  go_loopw [9] (fun i wr => ∃ (k : Nat), k ≤ n ∧ i = .int .i64 k ∧ (ops.take k).all okMa = true ∧ Below w.heap.size w wr) (fun i _ => n - (intOf i).toNat)
  case atStart => exact ⟨0, by omega, rfl, by simp, Below.refl _ _⟩
  case round =>
    obtain ⟨k, hk, rfl, hall, hB⟩ := hrel
    have HA := Lib.hid hall
    have HB := Lib.hid hB
    clear hall hB
    by_cases hlt : k < n
    · obtain ⟨x, hx⟩ : ∃ x, ops[k]? = some x := ⟨_, List.getElem?_eq_getElem (by have := HL.out; omega)⟩
      obtain ⟨g, off, hA, hbl, hcell⟩ := mop_cells HR.out hlt hx
      subst hA
      obtain ⟨kd, nm, sd, qt, pr⟩ := x
      have a : ∀ j, j < 5 → wr.cell? ⟨g, off + k * 5 + j, none⟩ = [Value.int .i64 kd, .string nm, .int .i64 sd, .int .i64 qt, .int .i64 pr][j]? := fun j hj => (HB.out.cell (p := ⟨g, off + k * 5 + j, none⟩) hbl).trans (hcell j hj)
      have a0 : wr.cell? ⟨g, off + k * 5, none⟩ = some (.int .i64 kd) := a 0 (by omega)
      have a1 : _ = some _ := a 1 (by omega)
      have a2 : _ = some _ := a 2 (by omega)
      have a3 : _ = some _ := a 3 (by omega)
      have a4 : _ = some _ := a 4 (by omega)
      have HX := Lib.hid hx
      clear hcell a hx
      go_upto_region 4 with (fail)
      have hO := Ob.new wr 90 [.int .i64 kd, .string nm, .int .i64 sd, .int .i64 qt, .int .i64 pr]
      refine cutW (fun W => Ob W wr.heap.size 90 [.int .i64 kd, .string nm, .int .i64 sd, .int .i64 qt, .int .i64 pr] ∧ Below w.heap.size w W) ⟨hO, HB.out.alloc HB.out.size _⟩ ?_
      clear hO HB a0 a1 a2 a3 a4
      generalize wr.heap.size = N at *
      rintro W ⟨hO, hB⟩
      have hc := hO.cell
      have HB := Lib.hid hB
      clear hO hB
      by_cases h1 : 100 < nm.size
      · have hf0 : fb = false := by
          rw [← HF.out]; unfold fewM
          have : ops.all okMa = false := List.all_eq_false.2 ⟨_, List.mem_of_getElem? HX.out, by simp [okMa]; omega⟩
          rw [this]; rfl
        have HF0 := Lib.hid hf0
        clear hf0
        go_wp2_with fail
        go_ret
        rw [HF0.out]
        exact ⟨rfl, HB.out⟩
      have hok : okMa (kd, nm, sd, qt, pr) = true := by simp [okMa]; omega
      have HA2 := Lib.hid (all_take_m okMa HA.out HX.out hok)
      clear hok
      go_wp2_with fail
      go_roundw
      case rel => exact ⟨k + 1, by omega, by go_num, HA2.out, HB.out⟩
      case measure => simp [intOf]; omega
    · have hkn : k = n := by omega
      subst hkn
      have hf1 : fb = decide (k ≤ most) := by
        rw [← HF.out]; unfold fewM
        rw [← HL.out]
        have := HA.out
        rw [← HL.out, List.take_length] at this
        rw [this]; rfl
      by_cases h100 : k ≤ most
      · have hf2 : fb = true := by rw [hf1]; simpa using h100
        have HF2 := Lib.hid hf2
        clear hf2
        have hd : decide ((k : Int) ≤ most) = true := by simp; omega
        clear hf1
        go_wp2_with fail
        go_ret
        rw [HF2.out]
        exact ⟨rfl, HB.out⟩
      · have hf2 : fb = false := by rw [hf1]; simpa using h100
        have HF2 := Lib.hid hf2
        clear hf2
        have hd : decide ((k : Int) ≤ most) = false := by simp; omega
        clear hf1
        go_wp2_with fail
        go_ret
        rw [HF2.out]
        exact ⟨rfl, HB.out⟩

end Go.Proofs.Ytjhlaifflhjafaa
