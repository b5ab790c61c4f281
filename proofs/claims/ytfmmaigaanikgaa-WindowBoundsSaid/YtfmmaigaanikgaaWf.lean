import Derived.Test.YtfmmaigaanikgaaWe
namespace Go.Proofs.Ytfmmaigaanikgaa
open Go.RowKit

set_option maxHeartbeats 400000 in
set_option maxRecDepth 100000 in
theorem windowNone_walk (w : World) (now : Int) :
    Calls Try.prog 11 #[.int .i64 now] w fun e w' => e = .returned (.bool true) ∧ Below w.heap.size w w' := by
  go_enter Try.func11, Try.ntmps11
  go_wp2_with (go_at_call 38; refine (awake06 _).mono ?_; rintro e w' ⟨rfl, hbw⟩)
  refine cutW (fun W => Ob W w'.heap.size 67 [.int .i64 0, .int .i64 0, .slice none 0 0] ∧ Ob W (w'.heap.size + 1) 61 [.pointer none, .pointer (some ⟨w'.heap.size, 0, none⟩)] ∧ Below w.heap.size w W) ⟨?_, ?_, ?_⟩ ?_
  · exact (Ob.new w' 67 _).alloc _
  · exact Ob.new2 w' (.cells #[.int .i64 0, .int .i64 0, .slice none 0 0] 67) 61 [.pointer none, .pointer (some ⟨w'.heap.size, 0, none⟩)]
  · exact (hbw.alloc hbw.size _).alloc (by have := hbw.size; simp; omega) _
  rintro W ⟨hs, ha, hb⟩
  have hc2 := ha.cell
  clear hbw
  go_loopw [17] (fun i wr => ∃ k : Nat, k ≤ 2 ∧ i = .int .i64 k ∧ ∃ d, wr = W.drewN d) (fun i _ => 2 - (intOf i).toNat)
  case atStart => exact ⟨0, by omega, rfl, 0, rfl⟩
  case round =>
    obtain ⟨k, hk, rfl, d, rfl⟩ := hrel
    match k, hk with
    | 0, _ =>
      go_wp2_with (first | (go_at_call 41; refine (wFree_nil _ _).mono ?_; rintro e w' ⟨rfl, rfl⟩) | (go_at_call 42; refine (wLast_nil _).mono ?_; rintro e w' ⟨rfl, rfl⟩) | (go_at_call 43; refine (wCount_nil _ _).mono ?_; rintro e w' ⟨rfl, rfl⟩) | (go_at_call 44; refine (wMay_nil _ _).mono ?_; rintro e w' ⟨rfl, d2, rfl⟩) | (go_at_call 40; refine (wTake_nil _ _).mono ?_; rintro e w' ⟨rfl, rfl⟩))
      go_roundw
      case rel => exact ⟨1, by omega, by go_num, _, rfl⟩
      case measure => simp [intOf]
    | 1, _ =>
      go_wp2_with (first | (go_at_call 41; refine (wFree_none _ _ _ _ _ (hs.drewN _)).mono ?_; rintro e w' ⟨rfl, rfl⟩) | (go_at_call 42; refine (wLast_none _ _ _ _ (hs.drewN _)).mono ?_; rintro e w' ⟨rfl, rfl⟩) | (go_at_call 43; refine (wCount_none _ _ _ _ _ (hs.drewN _)).mono ?_; rintro e w' ⟨rfl, rfl⟩) | (go_at_call 44; refine (wMay_none _ _ _ _ _ (hs.drewN _)).mono ?_; rintro e w' ⟨rfl, d2, rfl⟩) | (go_at_call 40; refine (wTake_none _ _ _ _ _ (hs.drewN _)).mono ?_; rintro e w' ⟨rfl, rfl⟩))
      go_roundw
      case rel => exact ⟨2, by omega, by go_num, _, rfl⟩
      case measure => simp [intOf]
    | 2, _ =>
      go_wp2
      go_ret
      exact ⟨rfl, Below.drewN hb _⟩

/-! The plain laws of a window. -/
theorem sorted_last {ts : List Int} (hs : ts.Pairwise (· ≤ ·)) {l : Int} (hl : ts.getLast? = some l) : ∀ t ∈ ts, t ≤ l := by
  intro t ht
  obtain ⟨ys, rfl⟩ := List.getLast?_eq_some_iff.1 hl
  rcases List.mem_append.1 ht with h | h
  · exact (List.pairwise_append.1 hs).2.2 t h l (by simp)
  · simp at h; omega
theorem lastLe_all {ts : List Int} {now : Int} (hs : ts.Pairwise (· ≤ ·)) (h : lastLe ts now = true) : ∀ t ∈ ts, t ≤ now := by
  intro t ht
  cases hl : ts.getLast? with
  | none => rw [List.getLast?_eq_none_iff] at hl; subst hl; simp at ht
  | some l =>
    have := sorted_last hs hl t ht
    rw [lastLe, hl] at h
    have := of_decide_eq_true h
    omega
theorem lastLe_of {ts : List Int} {now : Int} (h : ∀ t ∈ ts, t ≤ now) : lastLe ts now = true := by
  unfold lastLe
  split
  · rfl
  · rename_i l hl
    exact decide_eq_true (h l (List.mem_of_getLast? hl))
/-- Fewer than all are near: then the first is far. -/
theorem cnt_first {wd now a : Int} {r : List Int} (hs : (a :: r).Pairwise (· ≤ ·)) (h : cntW wd now (a :: r) < (a :: r).length) : wd ≤ now - a := by
  apply Classical.byContradiction
  intro hlt
  have hall : (a :: r).filter (fun t => decide (now - t < wd)) = a :: r := by
    rw [List.filter_eq_self]
    intro t ht
    rcases List.mem_cons.1 ht with h1 | h1
    · subst h1; exact decide_eq_true (by omega)
    · have := (List.pairwise_cons.1 hs).1 t h1
      exact decide_eq_true (by omega)
  unfold cntW at h
  rw [hall] at h
  omega
theorem cnt_all {wd now : Int} {ts : List Int} (h : ts.length ≤ cntW wd now ts) : ∀ t ∈ ts, now - t < wd := by
  intro t ht
  have hf : ts.filter (fun t => decide (now - t < wd)) = ts := (List.filter_sublist (l := ts)).eq_of_length_le h
  have := List.filter_eq_self.1 hf t ht
  exact of_decide_eq_true this
theorem cnt_not {wd now a : Int} {r : List Int} (h : wd ≤ now - a) : cntW wd now (a :: r) ≤ r.length := by
  unfold cntW
  rw [List.filter_cons_of_neg (by simp; omega)]
  exact List.length_filter_le ..

end Go.Proofs.Ytfmmaigaanikgaa
