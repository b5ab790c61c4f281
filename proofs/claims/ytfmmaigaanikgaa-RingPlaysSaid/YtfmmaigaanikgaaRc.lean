import Derived.Test.YtfmmaigaanikgaaRb
import Derived.Test.YtfmmaigaanikgaaSz
import Derived.Test.YtfmmaigaanikgaaWd
namespace Go.Proofs.Ytfmmaigaanikgaa
open Go.RowKit

set_option maxHeartbeats 400000 in
set_option maxRecDepth 100000 in
theorem awake05 (w : World) : Calls Try.prog 32 #[] w fun e w' => e = .returned (.bool true) ∧ Below w.heap.size w w' := by
  go_enter Try.func32, Try.ntmps32
  go_wp2_with fail
  refine (RINew_yes w 2 (by decide) (by decide)).mono ?_
  rintro e w1 ⟨rfl, hR, hb⟩
  go_wp2_with fail
  refine (RIPush_ok _ _ _ 2 0 [] _ 7 hR (by decide)).mono ?_
  rintro e w2 ⟨rfl, a2, hR2, hM2⟩
  have hb2 := Below.mods hb hM2 (fun k hk => by omega) hb.size
  clear hR hM2
  go_wp2_with fail
  refine (RIPush_ok _ _ _ 2 0 _ _ 8 hR2 (by decide)).mono ?_
  rintro e w3 ⟨rfl, a3, hR3, hM3⟩
  have hb3 := Below.mods hb2 hM3 (fun k hk => by omega) hb2.size
  clear hR2 hM3
  go_wp2_with fail
  refine (RIPush_full _ _ _ 2 0 _ _ 9 hR3 rfl).mono ?_
  rintro e w4 ⟨rfl, k4, rfl⟩
  have hR4 := hR3.drewN k4
  have hb4 := Below.drewN hb3 k4
  clear hR3
  go_wp2_with fail
  refine (RIPop_some _ _ _ 2 0 7 _ _ hR4).mono ?_
  rintro e w5 ⟨rfl, f5, a5, hR5, hM5⟩
  have hb5 := Below.mods hb4 hM5 (fun k hk => by omega) hb4.size
  go_wp2_with fail
  go_ret
  exact ⟨rfl, hb5⟩

/-- The ring at b (its row at b - 1), the list of what went in, the list of what came out: each a row of its own. -/
structure FP (B b R : Nat) (w wr : World) (iv ov : Value) (q I O : List ByteArray) : Prop where
  hr : ∃ first arr, RSAt wr b (b - 1) R first q arr
  hi : wr.ownsRow (b + 1) 9 1 iv I.length (I.map Value.string)
  ho : wr.ownsRow (b + 1) 9 1 ov O.length (O.map Value.string)
  hd : ∀ i, iv.ownBlock = some i → ov.ownBlock ≠ some i
  hb : Below B w wr
  hB : B < b
  hs : b + 1 ≤ wr.heap.size
theorem FP.turned {B b R : Nat} {w wr wr' : World} {iv ov : Value} {q q' I O : List ByteArray} {f : Nat} {arr : List ByteArray} (h : FP B b R w wr iv ov q I O) (hr : RSAt wr' b (b - 1) R f q' arr) (hM : Mods (fun k => k = b ∨ k = b - 1) wr wr') : FP B b R w wr' iv ov q' I O :=
  ⟨⟨f, arr, hr⟩, own_mods h.hi hM (fun k hk hs => by have := own_block h.hi k hk; omega), own_mods h.ho hM (fun k hk hs => by have := own_block h.ho k hk; omega), h.hd,
    Below.mods h.hb hM (fun k hk => by have := h.hB; omega) (by have := h.hs; have := h.hB; omega), h.hB, by have := h.hs; have := hM.size; omega⟩
theorem FP.drewN {B b R : Nat} {w wr : World} {iv ov : Value} {q I O : List ByteArray} (h : FP B b R w wr iv ov q I O) (k : Nat) : FP B b R w (wr.drewN k) iv ov q I O := by
  obtain ⟨f, arr, hr⟩ := h.hr
  exact h.turned (hr.drewN k) ((Mods.refl _ _).drewN k)
theorem FP.alloc {B b R : Nat} {w wr : World} {iv ov : Value} {q I O : List ByteArray} (h : FP B b R w wr iv ov q I O) (o : Obj) : FP B b R w (wr.alloc o) iv ov q I O := by
  obtain ⟨f, arr, hr⟩ := h.hr
  have hm : Mods (fun _ => False) wr (wr.alloc o) := (Mods.refl _ _).alloc o
  exact h.turned (hr.mods hm id id) (hm.mono (fun _ _ hf => hf.elim))
theorem FP.inGrown {B b R : Nat} {w wr w5 : World} {iv ov v5 : Value} {q I O : List ByteArray} {x : ByteArray} (h : FP B b R w wr iv ov q I O) (hown : w5.ownsRow (b + 1) 9 1 v5 (I.length + 1) (I.map Value.string ++ [.string x]))
    (hg : wr.grownBy w5 iv.ownBlock) (hat : v5.ownBlock = iv.ownBlock ∨ v5.ownBlock = some wr.heap.size) : FP B b R w w5 v5 ov q (I ++ [x]) O := by
  obtain ⟨f, arr, hr⟩ := h.hr
  have hM : Mods (fun i => iv.ownBlock = some i) wr w5 := (Mods.refl _ wr).grown hg (fun i hi => .inl hi)
  have hB := h.hB
  have hs := h.hs
  refine ⟨⟨f, arr, hr.mods hM (fun hs => by have := own_block h.hi _ hs; omega) (fun hs => by have := own_block h.hi _ hs; omega)⟩, by rw [List.length_append, List.map_append]; exact hown, own_mods h.ho hM (fun k hk hs => h.hd k hs hk), ?_,
    Below.mods h.hb hM (fun i hi => by have := own_block h.hi i hi; omega) (by omega), hB, by have := hM.size; omega⟩
  intro i hi ho
  rcases hat with h5 | h5
  · exact h.hd i (h5.symm.trans hi) ho
  · rw [h5] at hi
    injection hi with hi
    have := own_lt h.ho i ho
    omega
theorem FP.outGrown {B b R : Nat} {w wr w5 : World} {iv ov v5 : Value} {q I O : List ByteArray} {x : ByteArray} (h : FP B b R w wr iv ov q I O) (hown : w5.ownsRow (b + 1) 9 1 v5 (O.length + 1) (O.map Value.string ++ [.string x]))
    (hg : wr.grownBy w5 ov.ownBlock) (hat : v5.ownBlock = ov.ownBlock ∨ v5.ownBlock = some wr.heap.size) : FP B b R w w5 iv v5 q I (O ++ [x]) := by
  obtain ⟨f, arr, hr⟩ := h.hr
  have hM : Mods (fun i => ov.ownBlock = some i) wr w5 := (Mods.refl _ wr).grown hg (fun i hi => .inl hi)
  have hB := h.hB
  have hs := h.hs
  refine ⟨⟨f, arr, hr.mods hM (fun hs => by have := own_block h.ho _ hs; omega) (fun hs => by have := own_block h.ho _ hs; omega)⟩, own_mods h.hi hM (fun k hk hs => h.hd k hk hs), by rw [List.length_append, List.map_append]; exact hown, ?_,
    Below.mods h.hb hM (fun i hi => by have := own_block h.ho i hi; omega) (by omega), hB, by have := hM.size; omega⟩
  intro i hi ho
  rcases hat with h5 | h5
  · exact h.hd i hi (h5.symm.trans ho)
  · rw [h5] at ho
    injection ho with ho
    have := own_lt h.hi i hi
    omega

end Go.Proofs.Ytfmmaigaanikgaa
