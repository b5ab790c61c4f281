import Derived.Test.YtjhlaifflhjafaaRo
namespace Go.Proofs.Ytjhlaifflhjafaa
open Go.RowKit

theorem RInv.fnd_mem {seats : List Seat} {slots : List ByteArray} (h : RInv seats slots) {nm : ByteArray} {i : Nat} (hm : (nm, i) ∈ seats) : fndS slots nm = some i := by
  have hp := h.mem_pos hm
  rcases h.fnd nm with ⟨j, h1, _, h2⟩ | ⟨_, h2⟩
  · rw [hp] at h2
    injection h2 with h2
    injection h2 with _ h2
    rw [h1, h2]
  · unfold thereB at h2
    rw [hp] at h2
    simp at h2
theorem nameS_at {slots : List ByteArray} {i : Nat} {s : ByteArray} (h : slots[i]? = some s) : nameS slots i = s := by
  have hi := (List.getElem?_eq_some_iff.1 h).1
  unfold nameS
  rw [if_pos (by omega), List.getD_eq_getElem?_getD, Int.toNat_natCast, h]; rfl
theorem freeI_at {slots : List ByteArray} (h : freeI slots < slots.length) : slots[freeI slots]? = some em := by
  have h1 := List.getElem?_eq_getElem h
  have := idxP_at emB h1
  rw [h1, emB_iff.1 this]
theorem nameB_em : nameB em = false := by decide
theorem nameB_ne {s : ByteArray} (h : nameB s = true) : s ≠ em := by rintro rfl; rw [nameB_em] at h; cases h
/-- All names are names. -/
def VL (slots : List ByteArray) : Prop := ∀ (i : Nat) s, slots[i]? = some s → s ≠ em → nameB s = true
theorem VL.put {slots : List ByteArray} (h : VL slots) (nm : ByteArray) : VL (putS slots nm).2 := by
  unfold putS
  split
  · rename_i hn
    split
    · exact h
    · split
      · intro i s hs hne
        rw [List.getElem?_set] at hs
        split at hs
        · first
            | (injection hs with hs; rw [← hs]; exact hn)
            | (split at hs
               · injection hs with hs; rw [← hs]; exact hn
               · cases hs)
        · exact h i s hs hne
      · exact h
  · exact h
theorem VL.drop {slots : List ByteArray} (h : VL slots) (nm : ByteArray) : VL (dropS slots nm).2 := by
  unfold dropS
  split
  · intro i s hs hne
    rw [List.getElem?_set] at hs
    split at hs
    · first
        | (injection hs with hs; exact absurd hs.symm hne)
        | (split at hs
           · injection hs with hs; exact absurd hs.symm hne
           · cases hs)
    · exact h i s hs hne
  · exact h
theorem VL.start (n : Nat) : VL (List.replicate n em) := by
  intro i s hs hne
  rw [List.getElem?_replicate] at hs
  split at hs
  · injection hs with hs; exact absurd hs.symm hne
  · cases hs

/-- What is put beside a name leaves it where it is. -/
theorem put_keeps {slots : List ByteArray} {nm x : ByteArray} {p : Nat} (hp : slots[p]? = some nm) (hne : nm ≠ em) : (putS slots x).2[p]? = some nm ∧ ((putS slots x).1.2 = 0 → (putS slots x).1.1 = (freeI slots : Int) ∧ freeI slots < slots.length ∧ freeI slots ≠ p) := by
  unfold putS
  split
  · split
    · exact ⟨hp, fun h => by cases h⟩
    · split
      · rename_i hf
        have hfe := freeI_at hf
        have hfp : freeI slots ≠ p := by
          rintro rfl
          rw [hfe] at hp
          injection hp with hp
          exact hne hp.symm
        exact ⟨by rw [List.getElem?_set_ne hfp]; exact hp, fun _ => ⟨rfl, hf, hfp⟩⟩
      · exact ⟨hp, fun h => by cases h⟩
  · exact ⟨hp, fun h => by cases h⟩
theorem drop_keeps {slots : List ByteArray} {nm x : ByteArray} {p : Nat} (hp : slots[p]? = some nm) (hx : x ≠ nm) : (dropS slots x).2[p]? = some nm := by
  unfold dropS
  split
  · rename_i i hi
    have h1 := (fndS_some hi).1
    rw [List.getElem?_set_ne]
    · exact hp
    · rintro rfl
      rw [h1] at hp
      injection hp with hp
      exact hx hp
  · exact hp
theorem RInv.full {seats : List Seat} {slots : List ByteArray} (h : RInv seats slots) (hf : freeI slots < slots.length) : seats.length ≠ slots.length := by
  intro e
  rw [h.cnt, List.countP_eq_length] at e
  have h1 := freeI_at hf
  have := e _ (List.mem_of_getElem? h1)
  rw [emB_em] at this
  cases this

/-- The loop's roster. -/
structure RK (w W : World) (rb gt gn R : Nat) (slots : List ByteArray) (seats : List Seat) (v : Value) : Prop where
  hr : RosAt W rb gt gn R slots seats v
  hb : Below w.heap.size w W
  b1 : w.heap.size ≤ rb
  b2 : w.heap.size ≤ gt
  b3 : w.heap.size ≤ gn
theorem RK.below {w W W' : World} {rb gt gn R : Nat} {slots : List ByteArray} {seats : List Seat} {v : Value} (h : RK w W rb gt gn R slots seats v) (hb : Below W.heap.size W W') : RK w W' rb gt gn R slots seats v :=
  ⟨h.hr.below hb, h.hb.trans (hb.mono h.hb.size), h.b1, h.b2, h.b3⟩
theorem RK.step {w W W' : World} {rb gt gn R : Nat} {slots slots' : List ByteArray} {seats seats' : List Seat} {v v' : Value} (h : RK w W rb gt gn R slots seats v) (hr : RosAt W' rb gt gn R slots' seats' v') (hm : RosM W W' rb gt gn v v') : RK w W' rb gt gn R slots' seats' v' :=
  ⟨hr, hm.below h.hr h.hb h.b1 h.b2 h.b3, h.b1, h.b2, h.b3⟩
theorem RK.op {w W W' : World} {rb gt gn R : Nat} {slots : List ByteArray} {seats : List Seat} {v v' : Value} (h : RK w W rb gt gn R slots seats v) (hm : RosM W W' rb gt gn v v') {N : Nat} {t : TypeId} {cs : List Value} (hO : Ob W N t cs) (h1 : rb < N) (h2 : ∀ k, v.ownBlock = some k → k < N) : Ob W' N t cs := by
  have q1 := h.hr.l1
  have q2 := h.hr.l2
  refine hO.mods hm.1 ?_
  rintro (h | h | h | h)
  · omega
  · omega
  · omega
  · have := h2 _ h; omega

set_option maxHeartbeats 1600000 in
set_option maxRecDepth 100000 in
theorem rosterKeeps_out (w : World) (room : Int) (nm : ByteArray) (A : Option Addr) (n c : Nat) (ops : List ROp) (hr : Rd w A n 3 (ops.flatMap roCells)) (hl : ops.length = n) (h : fewR ops = false ∨ room < 1 ∨ 100 < room ∨ nameB nm = false) :
    Calls Try.prog 6 #[.int .i64 room, .string nm, .slice A n c] w fun e w' => e = .returned (.bool true) ∧ Below w.heap.size w w' := by
  have hfw := fun W hb => few25 W A n c ops (hr.below hb) hl
  have hvd := fun W => kValid W nm
  generalize fewR ops = fb at *
  generalize nameB nm = nb at *
  have HFw : Hid (∀ W, Below w.heap.size w W → Calls Try.prog 25 #[.slice A n c] W fun e w' => e = .returned (.bool fb) ∧ Below W.heap.size W w') := Lib.hid hfw
  have HVd := Lib.hid hvd
  clear hfw hvd hr hl
  cases fb with
  | false =>
    clear h
    go_enter Try.func6, Try.ntmps6
    go_wp2_with (first
      | (go_at_call 15; refine (awake15 _).mono ?_; rintro e w1 ⟨rfl, hb1⟩)
      | (go_at_call 25; refine (HFw.out _ hb1).mono ?_; rintro e w2 ⟨rfl, hb2⟩))
    go_ret
    exact ⟨rfl, hb1.trans (hb2.mono hb1.size)⟩
  | true =>
  replace h : room < 1 ∨ 100 < room ∨ nb = false := by rcases h with h | h; cases h; exact h
  by_cases h1 : room < 1
  · have d1 : decide (room < 1) = true := by simpa using h1
    clear h h1
    go_enter Try.func6, Try.ntmps6
    go_wp2_with (first
      | (go_at_call 15; refine (awake15 _).mono ?_; rintro e w1 ⟨rfl, hb1⟩)
      | (go_at_call 25; refine (HFw.out _ hb1).mono ?_; rintro e w2 ⟨rfl, hb2⟩))
    go_ret
    exact ⟨rfl, hb1.trans (hb2.mono hb1.size)⟩
  replace h := h.resolve_left h1
  have d1 : decide (room < 1) = false := by simpa using h1
  by_cases h2 : 100 < room
  · have d2 : decide (100 < room) = true := by simpa using h2
    clear h h1 h2
    go_enter Try.func6, Try.ntmps6
    go_wp2_with (first
      | (go_at_call 15; refine (awake15 _).mono ?_; rintro e w1 ⟨rfl, hb1⟩)
      | (go_at_call 25; refine (HFw.out _ hb1).mono ?_; rintro e w2 ⟨rfl, hb2⟩))
    go_ret
    exact ⟨rfl, hb1.trans (hb2.mono hb1.size)⟩
  · have d2 : decide (100 < room) = false := by simpa using h2
    have hn := h.resolve_left h2
    subst hn
    clear h h1 h2
    go_enter Try.func6, Try.ntmps6
    go_wp2_with (first
      | (go_at_call 15; refine (awake15 _).mono ?_; rintro e w1 ⟨rfl, hb1⟩)
      | (go_at_call 25; refine (HFw.out _ hb1).mono ?_; rintro e w2 ⟨rfl, hb2⟩)
      | (go_at_call 16; refine (HVd.out _).mono ?_; rintro e w3 ⟨rfl, hb3⟩))
    go_ret
    exact ⟨rfl, (hb1.trans (hb2.mono hb1.size)).trans (hb3.mono (Nat.le_trans hb1.size hb2.size))⟩

end Go.Proofs.Ytjhlaifflhjafaa
