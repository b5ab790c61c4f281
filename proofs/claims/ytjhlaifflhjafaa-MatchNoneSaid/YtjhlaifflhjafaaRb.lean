import Derived.Test.YtjhlaifflhjafaaRa
namespace Go.Proofs.Ytjhlaifflhjafaa
open Go.RowKit

theorem info118 : (Try.prog.info? 118).map (fun i => (i.zero, i.size, i.bytes)) = some (some (.agg #[.string ⟨#[]⟩, .int .i64 0]), 2, 24) := by kernel_rfl
theorem size118 : (Try.prog.info? 118).map (·.size) = some 2 := by kernel_rfl
theorem zsz118 (w : World) : (sizeOf 118).run Try.prog w = .ok 2 w := by
  obtain ⟨i0, hi0, hz0, hz1, hz2⟩ := info_parts info118
  simp [sizeOf, typeInfo, hi0, hz1]
theorem over70 (w : World) (gv g o lb cb : Nat) (news cur : List Value) (hv : Ob w gv 118 news) (hg : Ob w g 118 cur) (hne : gv ≠ g) (hc : cur ≠ []) :
    (callFunc 87 #[.slice (some ⟨gv, 0, none⟩) 1 1, .slice (some ⟨g, o, none⟩) lb cb]).run Try.prog w = .ok (.value (.bool false)) w := by
  rw [run_callFunc_extern Try.func87 (by kernel_rfl) (by kernel_rfl) (by kernel_rfl) (e := Extern.SlicesOverlaps.overlaps #[77, 77] #[4]) (by kernel_rfl),
    Lib.run_overlaps_apart w 77 4 118 Try.underlying77 2 zsz118 ⟨gv, 0, none⟩ ⟨g, o, none⟩ 1 1 lb cb hne 118 118 news.length cur.length
      (by simp [World.shape?, show w.heap[gv]? = _ from hv]) (by simp [World.shape?, show w.heap[g]? = _ from hg]) (by simpa using hc) (hv.frozen 0) (hv.frozen _)]
  rfl

/-- Where slices.Insert has put one element. -/
def InsP70 (w : World) (base : Nat) (v : Value) (n i : Nat) (xs news : List Value) (e : Ending) (w' : World) : Prop :=
  ∃ v', e = .returned v' ∧ w'.ownsRow base 118 2 v' (n + 1) (insV 2 i xs news) ∧ w.grownBy w' v.ownBlock ∧ (v'.ownBlock = v.ownBlock ∨ ∃ k, v'.ownBlock = some k ∧ w.heap.size ≤ k)

set_option maxHeartbeats 1600000 in
set_option maxRecDepth 100000 in
theorem insEnd70 (w : World) (base : Nat) (v : Value) (n : Nat) (xs news : List Value) (hown : w.ownsRow base 118 2 v n xs) (gv : Nat) (hob : Ob w gv 118 news) (hl : news.length = 2) (h1 : ∀ u ∈ news, u.oneCell' = true) (hn9 : n + 1 ≤ 100000) (hbase : base ≤ w.heap.size) :
    Calls Try.prog 70 #[v, .int .i64 n, .slice (some ⟨gv, 0, none⟩) 1 1] w fun e w' => InsP70 w base v n n xs news e w' := by
  obtain ⟨i0, hi0, hz0, hz1, hz2⟩ := info_parts info118
  have hw1 : IntKind.i64.wrap ((n : Int) + 1) = (n : Int) + 1 := by rw [IntWalk.i64_in _ (by omega)]
  have hins : insV 2 n xs news = xs ++ news := by
    unfold insV
    rw [List.take_of_length_le (by rw [hown.1]; exact Nat.le_refl _), List.drop_of_length_le (by rw [hown.1]; exact Nat.le_refl _), List.append_nil]
  have hr : ∀ ty, ∃ v' w', (Builtin.append_ #[77, 77] ty #[v, .slice (some ⟨gv, 0, none⟩) 1 1]).run Try.prog w = .ok v' w' ∧ w'.ownsRow base 118 2 v' (n + 1) (xs ++ news) ∧ w.grownBy w' v.ownBlock ∧ (v'.ownBlock = v.ownBlock ∨ v'.ownBlock = some w.heap.size) := fun ty => by
    obtain ⟨v', w', a, b, c, _, d⟩ := run_append_own_at (P := Try.prog) w base 77 ty 118 i0 _ 2 24 Try.underlying77 hi0 hz0 hz1 hz2 rfl (by decide) v n xs hown ⟨gv, 0, none⟩ 1 1 news (by simpa using hl)
      (fun j u hu => by rw [Go.WideShapes.add_plain, Nat.zero_add]; exact (hob.cell j).trans hu) h1 (by simp only [maxLen]; omega) (by omega) hbase
    exact ⟨v', w', a, b, c, d⟩
  obtain ⟨v', w', a, b, c, d⟩ := hr 77
  have HA := Lib.hid a
  have HB := Lib.hid b
  have HC := Lib.hid c
  have HD := Lib.hid d
  have HI := Lib.hid hins
  have hfin : InsP70 w base v n n xs news (.returned v') w' := ⟨v', rfl, by rw [hins]; exact b, c, d.imp id (fun h => ⟨_, h, Nat.le_refl _⟩)⟩
  have HF := Lib.hid hfin
  clear hr hi0 hz0 hz1 hz2 a b c d hins hfin
  rcases hown.2 with ⟨rfl, h0⟩ | ⟨g, cap, cur, rfl, hb, hh, hcn, hcm, hcs, htk⟩
  · subst h0
    clear hown
    go_enter Try.func70, Try.ntmps70
    go_wp2_with (at_builtin; refine wpList_appendR rfl _ _ 77 77 rfl _ _ rfl rfl HA.out ?_)
    go_ret
    exact HF.out
  · have hmx : cap ≤ 9223372036854775807 := by simp only [maxLen] at hcm; omega
    clear hown hcm hcs htk hh
    by_cases hcc : cap = n
    · subst hcc
      go_enter Try.func70, Try.ntmps70
      go_wp2_with (at_builtin; refine wpList_appendR rfl _ _ 77 77 rfl _ _ rfl rfl HA.out ?_)
      go_ret
      exact HF.out
    · go_enter Try.func70, Try.ntmps70
      go_wp2_with (at_builtin; refine wpList_appendR rfl _ _ 77 77 rfl _ _ rfl rfl HA.out ?_)
      go_ret
      exact HF.out

end Go.Proofs.Ytjhlaifflhjafaa
