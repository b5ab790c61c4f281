import Derived.Test.YtjhlaifflhjafaaRd
namespace Go.Proofs.Ytjhlaifflhjafaa
open Go.RowKit

theorem zero118 (w : World) : (zeroValue 118).run Try.prog w = .ok (.agg #[.string ⟨#[]⟩, .int .i64 0]) w := by
  obtain ⟨i0, hi0, hz0, hz1, hz2⟩ := info_parts info118
  simp [zeroValue, typeInfo, hi0, hz0]
/-- Where slices.Delete has struck the i-th element. -/
def DelP71 (w : World) (base : Nat) (v : Value) (n i : Nat) (xs : List Value) (e : Ending) (w' : World) : Prop :=
  ∃ v', e = .returned v' ∧ w'.ownsRow base 118 2 v' (n - 1) (delV 2 i xs) ∧ w.grownBy w' v.ownBlock ∧ v'.ownBlock = v.ownBlock

set_option maxHeartbeats 3200000 in
set_option maxRecDepth 100000 in
theorem delete71 (w : World) (base : Nat) (v : Value) (n i : Nat) (xs : List Value) (hown : w.ownsRow base 118 2 v n xs) (hi : i < n) (hx1 : ∀ u ∈ xs, u.oneCell' = true) (hn9 : n ≤ 100000) :
    Calls Try.prog 71 #[v, .int .i64 i, .int .i64 ((i : Int) + 1)] w fun e w' => DelP71 w base v n i xs e w' := by
  obtain ⟨A, c, rfl, -, -, -⟩ := own_shape hown
  obtain ⟨g, cur, rfl, hbg, hg, hc1, hc2, hcl, hcx⟩ := own_ob hown (by omega)
  have hxl : xs.length = n * 2 := hown.1
  have hmul : (i + 1) * 2 = i * 2 + 2 := by omega
  obtain ⟨p, rfl⟩ : ∃ p, n = p + 1 := ⟨n - 1, by omega⟩
  have key : ∀ (o c2 : Nat), (i < p → o = (i + 1) * 2) → ∃ w1, (∀ ty, (Builtin.append_ #[77, 77] ty #[.slice (some ⟨g, 0, none⟩) i c, .slice (some ⟨g, o, none⟩) (p - i) c2]).run Try.prog w.drew = .ok (.slice (some ⟨g, 0, none⟩) p c) w1) ∧
      ∃ w2, (∀ ty, (Builtin.clear_ #[77] ty #[.slice (some ⟨g, p * 2, none⟩) 1 (c - p)]).run Try.prog w1 = .ok (.tuple #[]) w2) ∧ DelP71 w base (.slice (some ⟨g, 0, none⟩) (p + 1) c) (p + 1) i xs (.returned (.slice (some ⟨g, 0, none⟩) p c)) w2 := by
    intro o c2 ho
    obtain ⟨w1, hr1, ho1, hu1⟩ := append_ob (P := Try.prog) w.drew 77 77 118 2 Try.underlying77 size118 g 0 i c ⟨g, o, none⟩ (p - i) c2 118 cur (xs.drop ((i + 1) * 2)) hg.drew (by rw [List.length_drop, hxl]; omega)
      (fun j v hj => by
        have hin : i < p := by
          have := (List.getElem?_eq_some_iff.1 hj).1
          rw [List.length_drop, hxl] at this
          omega
        rw [Go.WideShapes.add_plain, ho hin]
        rw [List.getElem?_drop, ← hcx, List.getElem?_take] at hj
        split at hj
        · exact (hg.drew.cell _).trans hj
        · cases hj) (by omega) (by rw [List.length_drop, hxl, hcl]; omega) (fun v hv => hx1 v (List.mem_of_mem_drop hv))
    rw [Nat.zero_add, hmul] at ho1
    obtain ⟨z1, z2⟩ := del_in (a := i * 2) (s := 2) hcx hxl (by omega) (by rw [hcl]; omega) _ rfl
    obtain ⟨w2, cur2, hr2, ho2, hl2, ht2, hu2⟩ := clear_ob (P := Try.prog) w1 77 77 118 2 _ Try.underlying77 (zero118 w1) rfl g (p * 2) 1 (c - p) (by decide) (by simp [Builtin.zeroCells, Value.cells]; decide) 118 _ ho1 (by rw [z1, hcl]; omega)
    refine ⟨w1, fun ty => ?_, w2, fun ty => hr2, _, rfl, ob_own hbg ho2 (by omega) hc2 (by rw [hl2, z1, hcl]) ?_, (Upd.refl g w).drew.trans hu1 |>.trans hu2, rfl⟩
    · have := hr1
      rwa [show i + (p - i) = p by omega] at this
    · rw [ht2 _ (by omega), show p * 2 = (p + 1) * 2 - 2 by omega, z2]
      unfold delV
      rw [hmul]
  have hw1 : IntKind.i64.wrap ((i : Int) + 1) = (i : Int) + 1 := by rw [IntWalk.i64_in _ (by omega)]
  have d1 : ((i : Int) == (i : Int) + 1) = false := by simp; omega
  have n1 : ¬ c = p := by omega
  have n6 : ¬ p + 1 = i := by omega
  have n7 : i ≤ p := by omega
  clear hown hcx hx1 hxl hmul hcl hg hbg
  by_cases hcc : c = i + 1
  · obtain ⟨w1, k1, w2, k2, k3⟩ := key 0 0 (by omega)
    obtain rfl : p = i := by omega
    rw [Nat.sub_self] at k1
    subst hcc
    rw [Nat.add_sub_cancel_left] at k2
    have K1 := Lib.hid k1
    have K2 := Lib.hid k2
    have K3 := Lib.hid k3
    clear k1 k2 k3 key
    go_enter Try.func71, Try.ntmps71
    go_upto_region 5 with (fail)
    refine wp_region_tail 6 (by kernel_rfl) (by kernel_rfl) ?_
    simp only [List.take_succ_cons, List.take_zero, List.drop_succ_cons, List.drop_zero]
    repeat (go_big_quiet_step (fail))
    refine wpQuiet_nil ?_
    refine wpList_appendR rfl _ _ 77 77 rfl (.slice (some ⟨g, 0, none⟩) p (p + 1)) (.slice (some ⟨g, 0, none⟩) 0 0) (by simp [Act.eval, Act.put]) (by simp [Act.eval, Act.put]) (K1.out _) ?_
    have k2 := K2.out
    go_wp2_with fail
    go_ret
    exact K3.out
  · obtain ⟨w1, k1, w2, k2, k3⟩ := key ((i + 1) * 2) (c - (i + 1)) (fun _ => rfl)
    have K1 := Lib.hid k1
    have K2 := Lib.hid k2
    have K3 := Lib.hid k3
    clear k1 k2 k3 key
    go_enter Try.func71, Try.ntmps71
    go_upto_region 5 with (fail)
    refine wp_region_tail 6 (by kernel_rfl) (by kernel_rfl) ?_
    simp only [List.take_succ_cons, List.take_zero, List.drop_succ_cons, List.drop_zero]
    repeat (go_big_quiet_step (fail))
    refine wpQuiet_nil ?_
    refine wpList_appendR rfl _ _ 77 77 rfl (.slice (some ⟨g, 0, none⟩) i c) (.slice (some ⟨g, (i + 1) * 2, none⟩) (p - i) (c - (i + 1))) (by simp [Act.eval, Act.put]) (by simp [Act.eval, Act.put]) (K1.out _) ?_
    have k2 := K2.out
    go_wp2_with fail
    go_ret
    exact K3.out

end Go.Proofs.Ytjhlaifflhjafaa
