import Derived.Test.YtjhlaifflhjafaaRb
namespace Go.Proofs.Ytjhlaifflhjafaa
open Go.RowKit

/-! What the copies leave. -/
theorem ins_in {cur xs news : List Value} {a s m : Nat} (h1 : cur.take m = xs) (h2 : xs.length = m) (h3 : a ≤ m) (h4 : news.length = s) (h5 : m + s ≤ cur.length) (cur1 cur2 : List Value)
    (e1 : cur1 = cur.take (a + s) ++ xs.drop a ++ cur.drop (a + s + (xs.drop a).length)) (e2 : cur2 = cur1.take a ++ news ++ cur1.drop (a + news.length)) : cur2.length = cur.length ∧ cur2.take (m + s) = xs.take a ++ news ++ xs.drop a := by
  have l1 : (cur.take (a + s)).length = a + s := by rw [List.length_take]; omega
  have t1 : cur1.take a = xs.take a := by
    rw [e1, List.append_assoc, List.take_append_of_le_length (by omega), List.take_take, ← h1, List.take_take, Nat.min_eq_left (by omega), Nat.min_eq_left h3]
  have t2 : cur1.drop (a + s) = xs.drop a ++ cur.drop (a + s + (xs.drop a).length) := by
    rw [e1, List.append_assoc, List.drop_append_of_le_length (by omega), List.drop_of_length_le (by omega), List.nil_append]
  have l2 : (xs.drop a).length = m - a := by simp [h2]
  have l3 : (xs.take a).length = a := by simp [h2]; omega
  rw [e2, t1, h4, t2]
  refine ⟨by simp [h2, h4]; omega, ?_⟩
  rw [← List.append_assoc, List.take_append_of_le_length (by simp [h2, h4]; omega), List.take_of_length_le (by simp [h2, h4]; omega)]
theorem ins_gr {row x1 x2 news : List Value} {a s : Nat} (h1 : row.take a = x1) (h2 : x1.length = a) (h4 : news.length = s) (h5 : a + s + x2.length ≤ row.length) (row1 row2 : List Value)
    (e1 : row1 = row.take a ++ news ++ row.drop (a + news.length)) (e2 : row2 = row1.take (a + s) ++ x2 ++ row1.drop (a + s + x2.length)) : row1.length = row.length ∧ row2.length = row.length ∧ row2.take (a + s + x2.length) = x1 ++ news ++ x2 := by
  have l1 : row1.length = row.length := by rw [e1, h1]; simp [h2, h4]; omega
  have t1 : row1.take (a + s) = x1 ++ news := by
    rw [e1, h1, List.take_append_of_le_length (by simp [h2, h4]), List.take_of_length_le (by simp [h2, h4])]
  refine ⟨l1, ?_, ?_⟩
  · rw [e2, t1]; simp [h2, h4]; omega
  · rw [e2, t1, List.take_append_of_le_length (by simp [h2, h4]; omega), List.take_of_length_le (by simp [h2, h4]; omega)]
theorem Upd.trans' {b : Nat} {w w1 w2 : World} (h : Upd b w w1) (k : Upd b w1 w2) : Upd b w w2 := h.trans k

set_option maxHeartbeats 3200000 in
set_option maxRecDepth 100000 in
theorem insIn70 (w : World) (base g n c i : Nat) (cur xs news : List Value) (hbg : base ≤ g) (hg : Ob w g 118 cur) (gv : Nat) (hob : Ob w gv 118 news) (hne : gv ≠ g) (hl : news.length = 2) (h1 : ∀ u ∈ news, u.oneCell' = true) (hi : i < n) (hc : n + 1 ≤ c) (hc9 : c ≤ 9223372036854775807) (hcl : cur.length = c * 2) (hcx : cur.take (n * 2) = xs) (hx1 : ∀ u ∈ xs, u.oneCell' = true) (hn9 : n + 1 ≤ 100000) :
    Calls Try.prog 70 #[.slice (some ⟨g, 0, none⟩) n c, .int .i64 i, .slice (some ⟨gv, 0, none⟩) 1 1] w fun e w' => InsP70 w base (.slice (some ⟨g, 0, none⟩) n c) n i xs news e w' := by
  have hw1 : IntKind.i64.wrap ((n : Int) + 1) = (n : Int) + 1 := by rw [IntWalk.i64_in _ (by omega)]
  have hw2 : IntKind.i64.wrap ((i : Int) + 1) = (i : Int) + 1 := by rw [IntWalk.i64_in _ (by omega)]
  have d1 : ((i : Int) == (n : Int)) = false := by simp; omega
  have d2 : decide ((c : Int) < (n : Int) + 1) = false := by simp; omega
  have n1 : ¬ c = i := by omega
  have n2 : ¬ c = i + 1 := by omega
  have hov := fun lb cb o => over70 w gv g o lb cb news cur hob hg hne (by intro h; subst h; simp at hcl; omega)
  go_enter Try.func70, Try.ntmps70
  go_upto_region 15 with (simp only [hov])
  have hxl : xs.length = n * 2 := by rw [← hcx, List.length_take, hcl]; omega
  obtain ⟨w1, hr1, ho1, hu1⟩ := copy_ob (P := Try.prog) w.drew 77 77 3 118 2 Try.underlying77 size118 g ((i + 1) * 2) (n + 1 - (i + 1)) (c - (i + 1)) ⟨g, i * 2, none⟩ (n + 1 - i) (c - i) 118 cur (xs.drop (i * 2)) hg.drew (n - i) (by simp only [Nat.min_def]; split <;> omega) (by rw [List.length_drop, hxl]; omega)
    (fun j v hj => by rw [Go.WideShapes.add_plain]; rw [List.getElem?_drop, ← hcx, List.getElem?_take] at hj; split at hj; exact (hg.drew.cell _).trans hj; cases hj)
    (by rw [List.length_drop, hxl, hcl]; omega) (fun v hv => hx1 v (List.mem_of_mem_drop hv))
  have hmul : (i + 1) * 2 = i * 2 + 2 := by omega
  have hmul2 : (n + 1) * 2 = n * 2 + 2 := by omega
  rw [hmul] at ho1
  have hob1 := hob.drew.upd hu1 hne
  obtain ⟨w2, hr2, ho2, hu2⟩ := copy_ob (P := Try.prog) w1 77 77 3 118 2 Try.underlying77 size118 g (i * 2) (n + 1 - i) (c - i) ⟨gv, 0, none⟩ 1 1 118 _ news ho1 1 (by simp only [Nat.min_def]; split <;> omega) (by rw [hl]) (fun j v hj => by rw [Go.WideShapes.add_plain, Nat.zero_add]; exact (hob1.cell j).trans hj) (by simp [hcl, hxl, hl]; omega) h1
  have hfin : InsP70 w base (.slice (some ⟨g, 0, none⟩) n c) n i xs news (.returned (.slice (some ⟨g, 0, none⟩) (n + 1) c)) w2 := by
    obtain ⟨z1, z2⟩ := ins_in (a := i * 2) (s := 2) hcx hxl (by omega) hl (by omega) _ _ rfl rfl
    refine ⟨_, rfl, ob_own hbg ho2 (by omega) hc9 (by rw [z1, hcl]) (by rw [hmul2]; exact z2), ?_, .inl rfl⟩
    exact ((Upd.refl g w).drew.trans hu1).trans hu2
  have H1 := Lib.hid hr1
  have HF := Lib.hid hfin
  clear hr1 hov hfin hmul hmul2
  refine wp_region_tail 8 (by kernel_rfl) (by kernel_rfl) ?_
  simp only [List.take_succ_cons, List.take_zero, List.drop_succ_cons, List.drop_zero]
  repeat (go_big_quiet_step (fail))
  refine wpQuiet_nil ?_
  refine wpList_copyR rfl _ _ 77 77 rfl (.slice (some ⟨g, (i + 1) * 2, none⟩) (n + 1 - (i + 1)) (c - (i + 1))) (.slice (some ⟨g, i * 2, none⟩) (n + 1 - i) (c - i)) (by simp [Act.eval, Act.put]) (by simp [Act.eval, Act.put]) H1.out ?_
  go_wp2_with fail
  go_ret
  exact HF.out

set_option maxHeartbeats 3200000 in
set_option maxRecDepth 100000 in
theorem insGrow70 (w : World) (base g n i : Nat) (cur xs news : List Value) (hbase : base ≤ w.heap.size) (hg : Ob w g 118 cur) (gv : Nat) (hob : Ob w gv 118 news) (hl : news.length = 2) (h1 : ∀ u ∈ news, u.oneCell' = true) (hi : i < n) (hcl : cur.length = n * 2) (hcx : cur.take (n * 2) = xs) (hx1 : ∀ u ∈ xs, u.oneCell' = true) (hn9 : n + 1 ≤ 100000) :
    Calls Try.prog 70 #[.slice (some ⟨g, 0, none⟩) n n, .int .i64 i, .slice (some ⟨gv, 0, none⟩) 1 1] w fun e w' => InsP70 w base (.slice (some ⟨g, 0, none⟩) n n) n i xs news e w' := by
  obtain ⟨i0, hi0, hz0, hz1, hz2⟩ := info_parts info118
  have hxl : xs.length = n * 2 := by rw [← hcx, List.length_take, hcl]; omega
  have hgl := hg.lt
  have hvl := hob.lt
  obtain ⟨k, hk⟩ : ∃ k, n + 1 - i = k := ⟨_, rfl⟩
  have hold : (Builtin.firstCells i0.size i (.slice (some ⟨g, 0, none⟩) i n)).run Try.prog w.drew = .ok (xs.take (i * 2)).toArray w.drew := by
    rw [hz1]
    exact run_firstCells_some w.drew 2 i ⟨g, 0, none⟩ i n (xs.take (i * 2)) (by rw [List.length_take, hxl]; omega) (fun j v hj => by
      rw [Go.WideShapes.add_plain, Nat.zero_add]
      rw [← hcx, List.take_take, List.getElem?_take] at hj
      split at hj
      · exact (hg.drew.cell _).trans hj
      · cases hj)
  have hgr := fun ty => Lib.run_append_grow_zeros w 77 3 ty 118 i0 _ .i64 .i64 Try.underlying77 Try.underlying3 hi0 hz0 (some ⟨g, 0, none⟩) i n (xs.take (i * 2)) hold k (by omega) (by rw [hz1]; omega) (by omega) (by omega) (by rw [hz2]; omega) (by rw [hz2]; exact growslice_fits (by omega) (by omega))
  have hik : i + k = n + 1 := by omega
  rw [hik] at hgr
  obtain ⟨G, hG⟩ : ∃ G, grownCap w (n + 1) n 118 = G := ⟨_, rfl⟩
  have hG1 : n + 1 ≤ G := by rw [← hG]; exact grownCap_ge w _ _ _
  have hG2 : G ≤ 9223372036854775807 := by
    have := grownCap_le_maxLen w (n + 1) n 118 (by unfold maxLen; omega)
    rw [hG] at this
    unfold maxLen at this
    omega
  rw [hG] at hgr
  obtain ⟨row, hrow⟩ : ∃ row : List Value, (xs.take (i * 2)).toArray ++ Builtin.zeroCells (Value.agg #[.string ⟨#[]⟩, .int .i64 0]).cells k ++ Builtin.zeroCells (Value.agg #[.string ⟨#[]⟩, .int .i64 0]).cells (G - (n + 1)) = row.toArray := ⟨_, (Array.toArray_toList).symm⟩
  have hrl : row.length = G * 2 := by
    have := congrArg Array.size hrow
    simp [Builtin.zeroCells, Value.cells, hxl] at this
    omega
  have hrt : row.take (i * 2) = xs.take (i * 2) := by
    have h2 := congrArg Array.toList hrow
    simp only [Array.toList_append, List.toList_toArray] at h2
    rw [← h2, List.append_assoc, List.take_append_of_le_length (by rw [List.length_take, hxl]; omega), List.take_take, Nat.min_self]
  rw [hrow] at hgr
  have hN : Ob (w.drew.alloc (.cells row.toArray 118)) w.heap.size 118 row := Ob.new w.drew 118 row
  have hgN : Ob (w.drew.alloc (.cells row.toArray 118)) g 118 cur := hg.drew.alloc _
  have hvN : Ob (w.drew.alloc (.cells row.toArray 118)) gv 118 news := hob.drew.alloc _
  have huN : Upd w.heap.size w (w.drew.alloc (.cells row.toArray 118)) := ((Upd.refl w.heap.size w).drew).alloc _
  generalize hw1 : w.drew.alloc (.cells row.toArray 118) = w1 at *
  obtain ⟨w2, hr2, ho2, hu2⟩ := copy_ob (P := Try.prog) w1 77 77 3 118 2 Try.underlying77 size118 w.heap.size (i * 2) (n + 1 - i) (G - i) ⟨gv, 0, none⟩ 1 1 118 row news hN 1 (by simp only [Nat.min_def]; split <;> omega) (by rw [hl]) (fun j v hj => by rw [Go.WideShapes.add_plain, Nat.zero_add]; exact (hvN.cell j).trans hj) (by rw [hrl, hl]; omega) h1
  have hg2 : Ob w2.drew g 118 cur := (hgN.upd hu2 (by omega)).drew
  obtain ⟨w3, hr3, ho3, hu3⟩ := copy_ob (P := Try.prog) w2.drew 77 77 3 118 2 Try.underlying77 size118 w.heap.size ((i + 1) * 2) (n + 1 - (i + 1)) (G - (i + 1)) ⟨g, i * 2, none⟩ (n - i) (n - i) 118 _ (xs.drop (i * 2)) ho2.drew (n - i) (by simp only [Nat.min_def]; split <;> omega) (by rw [List.length_drop, hxl]; omega)
    (fun j v hj => by rw [Go.WideShapes.add_plain]; rw [List.getElem?_drop, ← hcx, List.getElem?_take] at hj; split at hj; exact (hg2.cell _).trans hj; cases hj)
    (by rw [List.length_drop, hxl]; simp [hrl, hl]; omega) (fun v hv => hx1 v (List.mem_of_mem_drop hv))
  have hfin : InsP70 w base (.slice (some ⟨g, 0, none⟩) n n) n i xs news (.returned (.slice (some ⟨w.heap.size, 0, none⟩) (n + 1) G)) w3 := by
    have hx2 : (xs.drop (i * 2)).length = (n - i) * 2 := by rw [List.length_drop, hxl]; omega
    obtain ⟨z0, z1, z2⟩ := ins_gr (a := i * 2) (s := 2) (x2 := xs.drop (i * 2)) hrt (by rw [List.length_take, hxl]; omega) hl (by rw [hrl, hx2]; omega) _ _ rfl rfl
    rw [show (i + 1) * 2 = i * 2 + 2 by omega] at ho3
    refine ⟨_, rfl, ob_own hbase ho3 hG1 hG2 (by rw [z1, hrl]) (by rw [show (n + 1) * 2 = i * 2 + 2 + (xs.drop (i * 2)).length by rw [hx2]; omega]; exact z2), ?_, .inr ⟨_, rfl, Nat.le_refl _⟩⟩
    have hu := ((huN.trans hu2).drew).trans hu3
    exact ⟨hu.os, hu.tape, hu.output, hu.size, fun j hj _ => hu.block j hj (by simp; omega)⟩
  have H1 : Hid (∀ ty, (Builtin.append_ #[77, 3] ty #[.slice (some ⟨g, 0, none⟩) i n, .int .i64 ((n : Int) + 1 - i)]).run Try.prog w = .ok (.slice (some ⟨w.heap.size, 0, none⟩) (n + 1) G) w1) := Lib.hid (fun ty => by rw [show (n : Int) + 1 - i = (k : Int) by omega]; exact hgr ty)
  have H2 := Lib.hid hr2
  have H3 := Lib.hid hr3
  have HF := Lib.hid hfin
  clear hgr hr2 hr3 hfin hold hG hrow hrl hrt hw1 hi0 hz0 hz1 hz2 hik hk
  have hw1 : IntKind.i64.wrap ((n : Int) + 1) = (n : Int) + 1 := by rw [IntWalk.i64_in _ (by omega)]
  have hw2 : IntKind.i64.wrap ((i : Int) + 1) = (i : Int) + 1 := by rw [IntWalk.i64_in _ (by omega)]
  have hw3 : IntKind.i64.wrap ((n : Int) + 1 - i) = (n : Int) + 1 - i := by rw [IntWalk.i64_in _ (by omega)]
  have d1 : ((i : Int) == (n : Int)) = false := by simp; omega
  have d2 : decide ((n : Int) < (n : Int) + 1) = true := by simp; omega
  have n1 : ¬ n = i := by omega
  have n2 : ¬ G = i := by omega
  have n3 : ¬ G = i + 1 := by omega
  go_enter Try.func70, Try.ntmps70
  go_upto_region 9 with (fail)
  go_upto_region 10 with (at_builtin; refine wpList_appendR rfl _ _ 77 3 rfl _ _ rfl rfl (H1.out _) ?_)
  have hr2 := H2.out
  go_upto_region 11 with (fail)
  clear hr2
  refine wp_region_tail 8 (by kernel_rfl) (by kernel_rfl) ?_
  simp only [List.take_succ_cons, List.take_zero, List.drop_succ_cons, List.drop_zero]
  repeat (go_big_quiet_step (fail))
  refine wpQuiet_nil ?_
  refine wpList_copyR rfl _ _ 77 77 rfl (.slice (some ⟨w.heap.size, (i + 1) * 2, none⟩) (n + 1 - (i + 1)) (G - (i + 1))) (.slice (some ⟨g, i * 2, none⟩) (n - i) (n - i)) (by simp [Act.eval, Act.put]) (by simp [Act.eval, Act.put]) H3.out ?_
  go_wp2_with fail
  go_ret
  exact HF.out

/-- slices.Insert of one element. -/
theorem insert70 (w : World) (base : Nat) (v : Value) (n i : Nat) (xs news : List Value) (hown : w.ownsRow base 118 2 v n xs) (hi : i ≤ n) (gv : Nat) (hob : Ob w gv 118 news) (hne : ∀ k, v.ownBlock = some k → gv ≠ k) (hl : news.length = 2) (h1 : ∀ u ∈ news, u.oneCell' = true) (hx1 : ∀ u ∈ xs, u.oneCell' = true) (hn9 : n + 1 ≤ 100000) (hbase : base ≤ w.heap.size) :
    Calls Try.prog 70 #[v, .int .i64 i, .slice (some ⟨gv, 0, none⟩) 1 1] w fun e w' => InsP70 w base v n i xs news e w' := by
  by_cases hin : i = n
  · subst hin
    exact insEnd70 w base v i xs news hown gv hob hl h1 hn9 hbase
  · obtain ⟨A, c, rfl, -, -, -⟩ := own_shape hown
    obtain ⟨g, cur, rfl, hbg, hg, hc1, hc2, hcl, hcx⟩ := own_ob hown (by omega)
    by_cases hc : n + 1 ≤ c
    · exact insIn70 w base g n c i cur xs news hbg hg gv hob (hne g rfl) hl h1 (by omega) hc hc2 hcl hcx hx1 hn9
    · obtain rfl : c = n := by omega
      exact insGrow70 w base g c i cur xs news hbase hg gv hob hl h1 (by omega) hcl hcx hx1 hn9

end Go.Proofs.Ytjhlaifflhjafaa
