import Derived.Test.YtjhlaifflhjafaaRg
import Derived.Deep.CutBlock
namespace Go.Proofs.Ytjhlaifflhjafaa
open Go.RowKit

/-- A roster: its object at rb, the row of its seats, which slots are taken (gt), their names (gn). -/
structure RosAt (w : World) (rb gt gn R : Nat) (slots : List ByteArray) (seats : List Seat) (v : Value) : Prop where
  ho : Ob w rb 80 [v, .slice (some ⟨gt, 0, none⟩) R R, .slice (some ⟨gn, 0, none⟩) R R]
  ht : Ob w gt 4 (slots.map fun s => Value.bool (!emB s))
  hn : Ob w gn 9 (slots.map Value.string)
  hown : w.ownsRow (rb + 1) 118 2 v seats.length (seats.flatMap seatC)
  hl : slots.length = R
  hR : 1 ≤ R ∧ R ≤ 1024
  inv : RInv seats slots
  l1 : gt < rb
  l2 : gn < rb
  l3 : gt ≠ gn
theorem RosAt.mods {w w' : World} {rb gt gn R : Nat} {slots : List ByteArray} {seats : List Seat} {v : Value} {S : Nat → Prop} (h : RosAt w rb gt gn R slots seats v) (hm : Mods S w w') (h1 : ¬ S rb) (h2 : ¬ S gt) (h3 : ¬ S gn) (h4 : ∀ k, v.ownBlock = some k → ¬ S k) : RosAt w' rb gt gn R slots seats v :=
  ⟨h.ho.mods hm h1, h.ht.mods hm h2, h.hn.mods hm h3, own_mods h.hown hm h4, h.hl, h.hR, h.inv, h.l1, h.l2, h.l3⟩
theorem RosAt.below {w w' : World} {rb gt gn R : Nat} {slots : List ByteArray} {seats : List Seat} {v : Value} (h : RosAt w rb gt gn R slots seats v) (hb : Below w.heap.size w w') : RosAt w' rb gt gn R slots seats v :=
  h.mods (Below.mods_ hb (fun _ => False)) id id id (fun _ _ => id)
theorem RosAt.len {w : World} {rb gt gn R : Nat} {slots : List ByteArray} {seats : List Seat} {v : Value} (h : RosAt w rb gt gn R slots seats v) : seats.length ≤ R := by rw [← h.hl]; exact h.inv.len

set_option maxHeartbeats 400000 in
theorem rosIs_nil (w : World) : Calls Try.prog 67 #[.pointer none] w fun e w' => e = .returned (.bool false) ∧ w = w' := by
  go_enter Try.func67, Try.ntmps67
  go_wp2
  go_ret
  exact ⟨rfl, rfl⟩
set_option maxHeartbeats 400000 in
theorem rosIs_none (w : World) (rb : Nat) (h : w.cell? ⟨rb, 1, none⟩ = some (.slice none 0 0)) : Calls Try.prog 67 #[.pointer (some ⟨rb, 0, none⟩)] w fun e w' => e = .returned (.bool false) ∧ w = w' := by
  go_enter Try.func67, Try.ntmps67
  go_wp2
  go_ret
  exact ⟨rfl, rfl⟩
set_option maxHeartbeats 400000 in
theorem rosIs_some (w : World) (rb gt R : Nat) (h : w.cell? ⟨rb, 1, none⟩ = some (.slice (some ⟨gt, 0, none⟩) R R)) (hR : 1 ≤ R) : Calls Try.prog 67 #[.pointer (some ⟨rb, 0, none⟩)] w fun e w' => e = .returned (.bool true) ∧ w = w' := by
  have hp : decide ((0 : Int) < R) = true := by simp; omega
  go_enter Try.func67, Try.ntmps67
  go_wp2
  go_ret
  exact ⟨by simp; omega, rfl⟩

set_option maxHeartbeats 800000 in
theorem plc1 (w : World) (b1 b2 rb g off n c i : Nat) (nm s : ByteArray) (h1 : w.cell? ⟨b1, 0, none⟩ = some (.pointer (some ⟨rb, 0, none⟩))) (h2 : w.cell? ⟨b2, 0, none⟩ = some (.string nm)) (h3 : w.cell? ⟨rb, 0, none⟩ = some (.slice (some ⟨g, off, none⟩) n c)) (hi : i < n) (h4 : w.cell? ⟨g, off + i * 2, none⟩ = some (.string s)) :
    Calls Try.prog 86 #[.int .i64 i, .pointer (some ⟨b1, 0, none⟩), .pointer (some ⟨b2, 0, none⟩)] w fun e w' => e = .returned (.bool (!bl s nm)) ∧ ∃ k, w' = w.drewN k := by
  go_enter Try.func86, Try.ntmps86
  go_wp2
  go_quiet (fail)
  go_wp2
  go_ret
  exact ⟨rfl, _, rfl⟩

def prB (seats : List Seat) (nm : ByteArray) (i : Nat) : Bool := match seats[i]? with | some p => !bl p.1 nm | none => true
theorem prB_lt {seats : List Seat} {nm : ByteArray} {i : Nat} (h : i < posN seats nm) : prB seats nm i = false := by
  have hl := posN_le seats nm
  have := posN_lt h (List.getElem?_eq_getElem (by omega))
  unfold prB
  rw [List.getElem?_eq_getElem (by omega)]
  simp only
  rw [this]; rfl
theorem prB_ge {seats : List Seat} {nm : ByteArray} {i : Nat} (hs : seats.Pairwise (fun a b => bl a.1 b.1 = true)) (h : posN seats nm ≤ i) (hi : i < seats.length) : prB seats nm i = true := by
  have := posN_ge hs h (List.getElem?_eq_getElem hi)
  unfold prB
  rw [List.getElem?_eq_getElem hi]
  simp only
  rw [this]; rfl

set_option maxHeartbeats 1600000 in
set_option maxRecDepth 100000 in
theorem rosPlace (w : World) (rb gt gn R : Nat) (slots : List ByteArray) (seats : List Seat) (v : Value) (h : RosAt w rb gt gn R slots seats v) (nm : ByteArray) :
    Calls Try.prog 68 #[.pointer (some ⟨rb, 0, none⟩), .string nm] w fun e w' => e = .returned (.tuple #[.int .i64 (posN seats nm), .bool (thereB seats nm)]) ∧ Below w.heap.size w w' := by
  have hlen := h.len
  have hR := h.hR.2
  have hpl := posN_le seats nm
  have hpr0 := fun j (hj : j < posN seats nm) => prB_lt hj
  have hpr1 := fun j (hj : posN seats nm ≤ j) (hl : j < seats.length) => prB_ge h.inv.srt hj hl
  have ht : thereB seats nm = match seats[posN seats nm]? with | some p => p.1.toList == nm.toList | none => false := rfl
  have H := Lib.hid h
  have hrl := h.ho.lt
  generalize posN seats nm = K at *
  generalize htt : thereB seats nm = T at *
  obtain ⟨A, c, rfl, -, hc1, hc2⟩ := own_shape h.hown
  generalize hn : seats.length = n at *
  have HN := Lib.hid hn
  have HT := Lib.hid ht
  have HP0 := Lib.hid hpr0
  have HP1 := Lib.hid hpr1
  clear h ht htt hpr0 hpr1 hn
  have hO1 := Ob.new w 47 [.pointer (some ⟨rb, 0, none⟩)]
  have hO2 := Ob.new2 w (.cells #[.pointer (some ⟨rb, 0, none⟩)] 47) 9 [.string nm]
  go_enter Try.func68, Try.ntmps68
  go_upto_region 1 with (fail)
  refine cutW (fun W => RosAt W rb gt gn R slots seats (.slice A n c) ∧ Ob W w.heap.size 47 [.pointer (some ⟨rb, 0, none⟩)] ∧ Ob W (w.heap.size + 1) 9 [.string nm] ∧ Below w.heap.size w W) ⟨(H.out.below Below.alloc_set).below Below.alloc_set, hO1.alloc _, hO2, Below.alloc_set.alloc (by simp) _⟩ ?_
  clear H hO1 hO2
  rintro W ⟨h, hO1, hO2, hB⟩
  have HB := Lib.hid hB
  have h0 : W.cell? ⟨rb, 0, none⟩ = some (.slice A n c) := h.ho.cell 0
  have k1 : W.cell? ⟨w.heap.size, 0, none⟩ = some (.pointer (some ⟨rb, 0, none⟩)) := hO1.cell 0
  have k2 : W.cell? ⟨w.heap.size + 1, 0, none⟩ = some (.string nm) := hO2.cell 0
  obtain ⟨A', c', hv', hRd, -, -⟩ := own_shape h.hown
  rw [HN.out] at hv' hRd
  injection hv' with e1 _ e3
  subst e1; subst e3
  have hcell : ∀ i p, seats[i]? = some p → ∃ g off, A = some ⟨g, off, none⟩ ∧ W.cell? ⟨g, off + i * 2, none⟩ = some (.string p.1) := fun i p hp => by
    have hil : i < n := by rw [← HN.out]; exact (List.getElem?_eq_some_iff.1 hp).1
    obtain ⟨g, off, hA, _, hg⟩ := hRd.2.2 (by omega)
    exact ⟨g, off, hA, hg _ _ (flat_at seatC 2 (fun _ => rfl) seats i 0 p hp (by omega))⟩
  have hs := srch W (.pointer (some ⟨w.heap.size, 0, none⟩)) (.pointer (some ⟨w.heap.size + 1, 0, none⟩)) n K (by omega) (prB seats nm) hpl HP0.out HP1.out (fun k i hi => by
    obtain ⟨p, hp⟩ : ∃ p, seats[i]? = some p := ⟨_, List.getElem?_eq_getElem (by rw [HN.out]; exact hi)⟩
    obtain ⟨g, off, hA, hg⟩ := hcell i p hp
    have e : prB seats nm i = !bl p.1 nm := by unfold prB; rw [hp]
    rw [e]
    exact (plc1 (W.drewN k) w.heap.size (w.heap.size + 1) rb g off n c i nm p.1 k1 k2 (by rw [← hA]; exact h0) hi hg).mono fun e w' ⟨he, q, hw⟩ => ⟨he, k + q, by rw [hw]; simp [World.drewN, Nat.add_assoc]⟩)
  have HS := Lib.hid hs
  clear hs h hO1 hO2 hB hRd
  by_cases hKn : K < n
  · obtain ⟨p, hp⟩ : ∃ p, seats[K]? = some p := ⟨_, List.getElem?_eq_getElem (by rw [HN.out]; exact hKn)⟩
    obtain ⟨g, off, rfl, hg⟩ := hcell K p hp
    have hT : (p.1.toList == nm.toList) = T := by rw [HT.out, hp]
    have d1 : decide ((K : Int) < n) = true := by simp; omega
    generalize p.1 = s at *
    clear hcell hp
    go_upto_region 2 with (go_at_call 85; refine HS.out.mono ?_; rintro e w' ⟨rfl, q, rfl⟩)
    go_quiet (fail)
    go_wp2_with fail
    go_ret2
    exact ⟨rfl, Below.drewN (Below.drewN HB.out _) _⟩
  · have hT : T = false := by rw [HT.out, List.getElem?_eq_none (by rw [HN.out]; omega)]
    subst hT
    have d1 : decide ((K : Int) < n) = false := by simp; omega
    clear hcell
    go_upto_region 2 with (go_at_call 85; refine HS.out.mono ?_; rintro e w' ⟨rfl, q, rfl⟩)
    go_quiet (fail)
    go_wp2_with fail
    go_ret2
    exact ⟨rfl, Below.drewN (Below.drewN HB.out _) _⟩

end Go.Proofs.Ytjhlaifflhjafaa
