import Derived.Test.YtjhlaifflhjafaaRc
namespace Go.Proofs.Ytjhlaifflhjafaa
open Go.RowKit

/-- append into a block that is known whole, where there is room. -/
theorem append_ob {P : Program} (w : World) (t ty e : TypeId) (sz : Nat) (hu : P.underlying t = some (.slice e)) (hs : (P.info? e).map (·.size) = some sz)
    (g o n c : Nat) (a : Addr) (m c2 : Nat) (tt : TypeId) (cur cs : List Value) (hob : Ob w g tt cur) (hl : cs.length = m * sz)
    (hsrc : ∀ j v, cs[j]? = some v → w.cell? (a.add j) = some v) (hroom : n + m ≤ c) (hfit : o + n * sz + cs.length ≤ cur.length) (h1 : ∀ v ∈ cs, v.oneCell' = true) :
    ∃ w', (Builtin.append_ #[t, t] ty #[.slice (some ⟨g, o, none⟩) n c, .slice (some a) m c2]).run P w = .ok (.slice (some ⟨g, o, none⟩) (n + m) c) w' ∧ Ob w' g tt (cur.take (o + n * sz) ++ cs ++ cur.drop (o + n * sz + cs.length)) ∧ Upd g w w' := by
  have hst := run_storeCells_at P g (o + n * sz) tt cs 0 cur.toArray w hob (by simpa using hfit) h1
  refine ⟨w.setRow g (cur.take (o + n * sz) ++ cs ++ cur.drop (o + n * sz + cs.length)).toArray, ?_, ?_, ?_⟩
  · cases hq : P.info? e with
    | none => simp [hq] at hs
    | some i =>
      have hi : i.size = sz := by simpa [hq] using hs
      have hfc := run_firstCells_some (P := P) w i.size m a m c2 cs (by rw [hi]; exact hl) hsrc
      simp [Builtin.append_, run_underlying hu, sizeOf, typeInfo, hq, Builtin.lenOf, hroom, hfc, Addr.add_lit]
      rw [hi, hst]
      simp
  · exact setRow_heap w g cur.toArray _ tt (0, 0) hob
  · exact ⟨rfl, rfl, rfl, by simp, fun k _ hne => setRow_other w g k _ (fun e => hne (by rw [e]))⟩

theorem wpList_clearR {P : Program} {w : World} {ops : Array Oper} {rest : List Oper} {o : Oper} {a : Act} {Q : Exit → Act → World → Prop} (hgd : o.guard = none) (d : Operand) (t : TypeId)
    (ho : o.op = .call { callee := .builtin .clear, args := #[d], argTypes := #[t] }) (v : Value) (hd : a.eval d = v) {v' : Value} {w' : World}
    (hr : (Builtin.clear_ #[t] o.type #[v]).run P w = .ok v' w') (h : wpList P ops Q rest (a.put o.dst v') w') : wpList P ops Q (o :: rest) a w := by
  refine wpList_plain hgd fun _ hK => ?_
  unfold Oper.wp execOp
  simp only [ho, resolve, invoke, builtin, Sem.run_bind, Sem.run_pure, Result.andThen_ok, List.map_toArray, List.map_cons, List.map_nil, hd, hr]
  exact hK _ _ h
/-- clear of a piece of a block that is known whole. -/
theorem clear_ob {P : Program} (w : World) (t ty e : TypeId) (sz : Nat) (z : Value) (hu : P.underlying t = some (.slice e)) (hz : (zeroValue e).run P w = .ok z w) (hzs : z.cells.size = sz) 
    (g o n c : Nat) (hn : 0 < n) (h1 : ∀ v ∈ (Builtin.zeroCells z.cells n).toList, v.oneCell' = true) (tt : TypeId) (cur : List Value) (hob : Ob w g tt cur) (hfit : o + n * sz ≤ cur.length) :
    ∃ w' cur', (Builtin.clear_ #[t] ty #[.slice (some ⟨g, o, none⟩) n c]).run P w = .ok (.tuple #[]) w' ∧ Ob w' g tt cur' ∧ cur'.length = cur.length ∧ (∀ k, k ≤ o → cur'.take k = cur.take k) ∧ Upd g w w' := by
  have hlen : (Builtin.zeroCells z.cells n).toList.length = n * sz := by simp [Builtin.zeroCells, hzs]
  have hst := run_storeCells_at P g o tt (Builtin.zeroCells z.cells n).toList 0 cur.toArray w hob (by rw [hlen]; simpa using hfit) h1
  refine ⟨w.setRow g (cur.take o ++ (Builtin.zeroCells z.cells n).toList ++ cur.drop (o + (Builtin.zeroCells z.cells n).toList.length)).toArray, _, ?_, setRow_heap w g cur.toArray _ tt (0, 0) hob, ?_, ?_, ?_⟩
  · obtain ⟨n', rfl⟩ : ∃ n', n = n' + 1 := ⟨n - 1, by omega⟩
    simp only [Nat.add_zero] at hst
    simp [Builtin.clear_, run_underlying hu, hz, hst]
  · rw [hlen]; simp; rw [← Array.length_toList, hlen]; omega
  · intro k hk
    rw [List.append_assoc, List.take_append_of_le_length (by rw [List.length_take]; omega), List.take_take, Nat.min_eq_left hk]
  · exact ⟨rfl, rfl, rfl, by simp, fun k _ hne => setRow_other w g k _ (fun e => hne (by rw [e]))⟩

theorem del_in {cur xs : List Value} {a s m : Nat} (h1 : cur.take m = xs) (h2 : xs.length = m) (h3 : a + s ≤ m) (h4 : m ≤ cur.length) (cur1 : List Value)
    (e1 : cur1 = cur.take a ++ xs.drop (a + s) ++ cur.drop (a + (xs.drop (a + s)).length)) : cur1.length = cur.length ∧ cur1.take (m - s) = xs.take a ++ xs.drop (a + s) := by
  have l1 : (cur.take a).length = a := by rw [List.length_take]; omega
  have l2 : (xs.drop (a + s)).length = m - (a + s) := by simp [h2]
  have t1 : cur.take a = xs.take a := by rw [← h1, List.take_take, Nat.min_eq_left (by omega)]
  refine ⟨by rw [e1]; simp [h2]; omega, ?_⟩
  rw [e1, List.take_append_of_le_length (by rw [List.length_append, l1, l2]; omega), List.take_of_length_le (by rw [List.length_append, l1, l2]; omega), t1]

end Go.Proofs.Ytjhlaifflhjafaa
