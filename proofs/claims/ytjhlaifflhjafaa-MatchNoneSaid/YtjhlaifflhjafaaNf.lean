import Derived.Test.YtjhlaifflhjafaaNe
namespace Go.Proofs.Ytjhlaifflhjafaa
open Go.RowKit

theorem own_base {w : World} {base base' n sz : Nat} {e : TypeId} {v : Value} {xs : List Value} (h : w.ownsRow base' e sz v n xs) (hb : base ≤ base') : w.ownsRow base e sz v n xs := by
  refine ⟨h.1, ?_⟩
  rcases h.2 with h2 | ⟨g, cap, cur, hv, hb2, h3⟩
  · exact .inl h2
  · exact .inr ⟨g, cap, cur, hv, Nat.le_trans hb hb2, h3⟩
theorem MbTo.same {w w' : World} {mb : Nat} {v0 v1 : Value} {S : Sd} (h : MbAt w mb v0 v1 S) (hb : Below w.heap.size w w') : MbTo w mb v0 v1 S w' := ⟨v0, v1, h.below hb, Below.mods_ hb _, fun _ hk => .inl hk⟩
theorem find_cases (S : Sd) (id : ByteArray) :
    (∃ o, S.1[mIdx S.1 id]? = some o ∧ findM S id = (0, (mIdx S.1 id : Int))) ∨ (∃ o, S.1[mIdx S.1 id]? = none ∧ S.2[mIdx S.2 id]? = some o ∧ findM S id = (1, (mIdx S.2 id : Int))) ∨ (S.1[mIdx S.1 id]? = none ∧ S.2[mIdx S.2 id]? = none ∧ findM S id = (-1, -1)) := by
  unfold findM
  by_cases h0 : mIdx S.1 id < S.1.length
  · exact .inl ⟨_, List.getElem?_eq_getElem h0, if_pos h0⟩
  · rw [if_neg h0]
    have e0 := List.getElem?_eq_none (l := S.1) (i := mIdx S.1 id) (by omega)
    by_cases h1 : mIdx S.2 id < S.2.length
    · exact .inr (.inl ⟨_, e0, List.getElem?_eq_getElem h1, if_pos h1⟩)
    · exact .inr (.inr ⟨e0, List.getElem?_eq_none (by omega), if_neg h1⟩)

set_option maxHeartbeats 400000 in
theorem mo33 (w : World) : Calls Try.prog 33 #[] w fun e w' => e = .returned (.pointer (some ⟨w.heap.size, 0, none⟩)) ∧ MbAt w' w.heap.size (.slice none 0 0) (.slice none 0 0) ([], []) ∧ Below w.heap.size w w' := by
  have hO := Ob.new w 99 [.slice none 0 0, .slice none 0 0]
  have hB : Below w.heap.size w (w.alloc (.cells [.slice none 0 0, .slice none 0 0].toArray 99)) := Below.alloc_set
  go_enter Try.func33, Try.ntmps33
  go_wp2
  go_ret
  exact ⟨rfl, ⟨hO, own_nil _ _ _ _, own_nil _ _ _ _, fun _ h => (by cases h), by simp⟩, hB⟩

set_option maxHeartbeats 1600000 in
set_option maxRecDepth 100000 in
theorem mo48 (w : World) (mb : Nat) (v0 v1 : Value) (S : Sd) (h : MbAt w mb v0 v1 S) (id : ByteArray) :
    Calls Try.prog 48 #[.pointer (some ⟨mb, 0, none⟩), .string id] w fun e w' => e = .returned (.tuple #[.int .i64 (leftM S id).1, .bool (leftM S id).2]) ∧ Below w.heap.size w w' := by
  have h73 := mo73 w mb v0 v1 S h id
  have H := Lib.hid h
  rcases find_cases S id with ⟨o, h0, hf⟩ | ⟨o, h0, h1, hf⟩ | ⟨h0, h1, hf⟩
  · have e : leftM S id = (o.left, true) := by unfold leftM; rw [h0]
    rw [e]
    rw [hf] at h73
    have hl := (List.getElem?_eq_some_iff.1 h0).1
    obtain ⟨A, c, rfl, -, -, -⟩ := own_shape h.h0
    have hq : ∀ W, MbAt W mb (.slice A S.1.length c) v1 S → ∃ g off, A = some ⟨g, off, none⟩ ∧ W.cell? ⟨g, off + mIdx S.1 id * 3 + 1, none⟩ = some (.int .i64 o.left) := fun W hW => by
      obtain ⟨g, off, hA, -, hg⟩ := (Rd.of_own hW.h0).2.2 (by omega)
      exact ⟨g, off, hA, by rw [Nat.add_assoc]; exact hg _ _ (flat_at moC 3 moC_len S.1 _ 1 o h0 (by omega))⟩
    have HQ := Lib.hid hq
    have H73 := Lib.hid h73
    generalize mIdx S.1 id = i at *
    generalize S.1.length = n at *
    clear e hf h73 hq h h0
    go_enter Try.func48, Try.ntmps48
    go_upto_region 6 with (go_at_call 73; refine H73.out.mono ?_; rintro e w' ⟨rfl, hb⟩)
    refine cutW (fun W => MbAt W mb (.slice A n c) v1 S ∧ Below w.heap.size w W) ⟨H.out.below hb, hb⟩ ?_
    rintro W ⟨hW, hB⟩
    obtain ⟨g, off, rfl, hc⟩ := HQ.out W hW
    have hc0 : W.cell? ⟨mb, 0, none⟩ = some (.slice (some ⟨g, off, none⟩) n c) := hW.ho.cell 0
    have HB := Lib.hid hB
    clear hW hB hb H H73 HQ
    go_wp2_with fail
    go_ret2
    exact ⟨rfl, HB.out⟩
  · have e : leftM S id = (o.left, true) := by unfold leftM; rw [h0]; simp only; rw [h1]
    rw [e]
    rw [hf] at h73
    have hl := (List.getElem?_eq_some_iff.1 h1).1
    obtain ⟨A, c, rfl, -, -, -⟩ := own_shape h.h1
    have hq : ∀ W, MbAt W mb v0 (.slice A S.2.length c) S → ∃ g off, A = some ⟨g, off, none⟩ ∧ W.cell? ⟨g, off + mIdx S.2 id * 3 + 1, none⟩ = some (.int .i64 o.left) := fun W hW => by
      obtain ⟨g, off, hA, -, hg⟩ := (Rd.of_own hW.h1).2.2 (by omega)
      exact ⟨g, off, hA, by rw [Nat.add_assoc]; exact hg _ _ (flat_at moC 3 moC_len S.2 _ 1 o h1 (by omega))⟩
    have HQ := Lib.hid hq
    have H73 := Lib.hid h73
    generalize mIdx S.2 id = i at *
    generalize S.2.length = n at *
    clear e hf h73 hq h h0 h1
    go_enter Try.func48, Try.ntmps48
    go_upto_region 6 with (go_at_call 73; refine H73.out.mono ?_; rintro e w' ⟨rfl, hb⟩)
    refine cutW (fun W => MbAt W mb v0 (.slice A n c) S ∧ Below w.heap.size w W) ⟨H.out.below hb, hb⟩ ?_
    rintro W ⟨hW, hB⟩
    obtain ⟨g, off, rfl, hc⟩ := HQ.out W hW
    have hc0 : W.cell? ⟨mb, 1, none⟩ = some (.slice (some ⟨g, off, none⟩) n c) := hW.ho.cell 1
    have HB := Lib.hid hB
    clear hW hB hb H H73 HQ
    go_wp2_with fail
    go_ret2
    exact ⟨rfl, HB.out⟩
  · have e : leftM S id = (0, false) := by unfold leftM; rw [h0]; simp only; rw [h1]
    rw [e]
    rw [hf] at h73
    have H73 := Lib.hid h73
    clear e hf h73 h h0 h1
    go_enter Try.func48, Try.ntmps48
    go_wp2_with (go_at_call 73; refine H73.out.mono ?_; rintro e w' ⟨rfl, hb⟩)
    go_ret2
    exact ⟨rfl, hb⟩

end Go.Proofs.Ytjhlaifflhjafaa
