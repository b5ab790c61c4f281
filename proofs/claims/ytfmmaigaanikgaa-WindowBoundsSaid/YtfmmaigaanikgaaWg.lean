import Derived.Test.YtfmmaigaanikgaaWf
namespace Go.Proofs.Ytfmmaigaanikgaa
open Go.RowKit

theorem tk_sorted {mo now : Int} {ts : List Int} (hs : ts.Pairwise (· ≤ ·)) (h : ∀ t ∈ ts, t ≤ now) : (tkW mo ts now).Pairwise (· ≤ ·) := by
  have h1 : ∀ l : List Int, l.Sublist ts → (l ++ [now]).Pairwise (· ≤ ·) := by
    intro l hl
    rw [List.pairwise_append]
    exact ⟨hs.sublist hl, by simp, fun a ha b hb => by simp at hb; subst hb; exact h a (hl.subset ha)⟩
  unfold tkW
  split
  · exact h1 _ (List.drop_sublist _ _)
  · exact h1 _ (List.Sublist.refl _)

/-- What is told of a tick that may be asked of. -/
def OpensP (wd mo : Int) (ts : List Int) (t a : Int) : Prop :=
  freeV wd mo ts t = (a, 0) ∧ t ≤ a ∧ a - t ≤ wd ∧ 0 ≤ a ∧ a ≤ 1100585369600 ∧ (a ≤ 1099511627776 → mayB wd mo ts a = true ∧ rightB ts a = true ∧ (cntW wd a ts : Int) < mo) ∧ (t < a → mayB wd mo ts (a - 1) = false) ∧ (1099511627776 < a → rightB ts a = false)
theorem opens_of {wd mo t : Int} {ts : List Int} (hs : ts.Pairwise (· ≤ ·)) (hb : ∀ t ∈ ts, 0 ≤ t ∧ t ≤ 1099511627776) (hn : (ts.length : Int) ≤ mo) (hm : 1 ≤ mo) (hw : 1 ≤ wd ∧ wd ≤ 1073741824) (hr : rightB ts t = true) : ∃ a, OpensP wd mo ts t a := by
  obtain ⟨h0, h9, hl⟩ := rightB_iff.1 hr
  have hall := lastLe_all hs hl
  by_cases hc : (cntW wd t ts : Int) < mo
  · refine ⟨t, by rw [freeV, if_pos hr, if_pos hc], by omega, by omega, h0, by omega, fun _ => ⟨?_, hr, hc⟩, fun h => by omega, fun h => by omega⟩
    rw [mayB, hr]; exact decide_eq_true hc
  · have hle := cntW_le wd t ts
    cases ts with
    | nil => simp [cntW] at hc; omega
    | cons x r =>
      have hlen : (x :: r).length ≤ cntW wd t (x :: r) := by omega
      have hx := cnt_all hlen x (by simp)
      have hx1 := hall x (by simp)
      have hx2 := (hb x (by simp)).1
      have hx9 := (hb x (by simp)).2
      have hrge : ∀ y ∈ r, x ≤ y := (List.pairwise_cons.1 hs).1
      have hcnt : (cntW wd (x + wd) (x :: r) : Int) < mo := by
        have := cnt_not (wd := wd) (now := x + wd) (a := x) (r := r) (by omega)
        simp at hn; omega
      have hlast : ∀ a, t ≤ a → lastLe (x :: r) a = true := fun a ha => lastLe_of fun y hy => by have := hall y hy; omega
      refine ⟨x + wd, by rw [freeV, if_pos hr, if_neg hc]; rfl, by omega, by omega, by omega, by omega, fun ha => ?_, fun _ => ?_, fun ha => ?_⟩
      · have hr2 : rightB (x :: r) (x + wd) = true := rightB_iff.2 ⟨by omega, ha, hlast _ (by omega)⟩
        exact ⟨by rw [mayB, hr2]; exact decide_eq_true hcnt, hr2, hcnt⟩
      · have hfull : (x :: r).filter (fun y => decide (x + wd - 1 - y < wd)) = x :: r := by
          rw [List.filter_eq_self]
          intro y hy
          rcases List.mem_cons.1 hy with h | h
          · subst h; exact decide_eq_true (by omega)
          · have := hrge y h; exact decide_eq_true (by omega)
        have : ¬ (cntW wd (x + wd - 1) (x :: r) : Int) < mo := by unfold cntW; rw [hfull]; omega
        rw [mayB, decide_eq_false this, Bool.and_false]
      · cases hh : rightB (x :: r) (x + wd) with
        | false => rfl
        | true => have := (rightB_iff.1 hh).2.1; omega

/-- A play with a window at round k. -/
def WPlay (B b : Nat) (w wr : World) (wd mo : Int) (v : Value) (ts : List Int) : Prop :=
  WinO wr b (b + 1) wd mo v ts ∧ ts.Pairwise (· ≤ ·) ∧ B ≤ b ∧ b + 1 ≤ wr.heap.size ∧ Below B w wr
theorem WPlay.drewN {B b : Nat} {w wr : World} {wd mo : Int} {v : Value} {ts : List Int} (h : WPlay B b w wr wd mo v ts) (k : Nat) : WPlay B b w (wr.drewN k) wd mo v ts :=
  ⟨h.1.drewN k, h.2.1, h.2.2.1, h.2.2.2.1, Below.drewN h.2.2.2.2 k⟩
theorem WPlay.took {B b : Nat} {w wr w' : World} {wd mo now : Int} {v v' : Value} {ts : List Int} (h : WPlay B b w wr wd mo v ts) (hr : rightB ts now = true) (hO : WinO w' b (b + 1) wd mo v' (tkW mo ts now)) (hM : Mods (fun k => k = b ∨ v.ownBlock = some k) wr w') :
    WPlay B b w w' wd mo v' (tkW mo ts now) := by
  obtain ⟨h1, h2, h3, h4, h5⟩ := h
  refine ⟨hO, tk_sorted h2 (lastLe_all h2 (rightB_iff.1 hr).2.2), h3, Nat.le_trans h4 hM.size, Below.mods h5 hM (fun k hk => ?_) (by omega)⟩
  rcases hk with hk | hk
  · omega
  · have := own_block h1.hown k hk; omega

end Go.Proofs.Ytfmmaigaanikgaa
