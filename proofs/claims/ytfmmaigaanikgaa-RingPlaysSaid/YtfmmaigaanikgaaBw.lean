import Derived.Test.YtfmmaigaanikgaaSy
import Derived.Maps.AppendAt
import Derived.Laws.CopyOwn
import Derived.WalkSmall
namespace Go.Proofs.Ytfmmaigaanikgaa
open Go.RowKit

/-- w' is w but for what the blocks of S hold, and new blocks. -/
structure Mods (S : Nat → Prop) (w w' : World) : Prop where
  os : w'.os = w.os
  tape : w'.tape = w.tape
  output : w'.output = w.output
  size : w.heap.size ≤ w'.heap.size
  block : ∀ k, k < w.heap.size → ¬ S k → w'.heap[k]? = w.heap[k]?
theorem Mods.refl (S : Nat → Prop) (w : World) : Mods S w w := ⟨rfl, rfl, rfl, Nat.le_refl _, fun _ _ _ => rfl⟩
theorem Mods.trans {S : Nat → Prop} {w w1 w2 : World} (h : Mods S w w1) (k : Mods S w1 w2) : Mods S w w2 :=
  ⟨k.os.trans h.os, k.tape.trans h.tape, k.output.trans h.output, Nat.le_trans h.size k.size, fun i hi hn => (k.block i (Nat.lt_of_lt_of_le hi h.size) hn).trans (h.block i hi hn)⟩
theorem Mods.mono {S T : Nat → Prop} {w w1 : World} (h : Mods S w w1) (hs : ∀ k, k < w.heap.size → S k → T k) : Mods T w w1 :=
  ⟨h.os, h.tape, h.output, h.size, fun i hi hn => h.block i hi (fun hk => hn (hs i hi hk))⟩
theorem Mods.alloc {S : Nat → Prop} {w w1 : World} (h : Mods S w w1) (o : Obj) : Mods S w (w1.alloc o) :=
  h.trans ⟨rfl, rfl, rfl, by simp, fun k hk _ => Below.heap_alloc _ _ _ hk⟩
theorem Mods.drewN {S : Nat → Prop} {w w1 : World} (h : Mods S w w1) (n : Nat) : Mods S w (w1.drewN n) := ⟨h.os, h.tape, h.output, h.size, h.block⟩
theorem Mods.drew {S : Nat → Prop} {w w1 : World} (h : Mods S w w1) : Mods S w w1.drew := ⟨h.os, h.tape, h.output, h.size, h.block⟩
theorem Mods.setCell {S : Nat → Prop} {w w1 : World} (h : Mods S w w1) (a : Addr) (ha : S a.block ∨ w.heap.size ≤ a.block) (v : Value) : Mods S w (w1.setCell a v) :=
  ⟨h.os, h.tape, h.output, Nat.le_trans h.size (by simp [World.setCell]), fun k hk hn => (Below.heap_setCell _ _ _ _ (fun e => by subst e; rcases ha with ha | ha; exact hn ha; omega)).trans (h.block k hk hn)⟩
theorem Mods.grown {S : Nat → Prop} {w w1 w2 : World} {row : Option Nat} (h : Mods S w w1) (hg : w1.grownBy w2 row) (hr : ∀ k, row = some k → S k ∨ w.heap.size ≤ k) : Mods S w w2 :=
  ⟨hg.os.trans h.os, hg.tape.trans h.tape, hg.output.trans h.output, Nat.le_trans h.size hg.size, fun k hk hn => (hg.block k (Nat.lt_of_lt_of_le hk h.size) (fun e => by rcases hr k e.symm with h1 | h1; exact hn h1; omega)).trans (h.block k hk hn)⟩
theorem Upd.mods {b : Nat} {w w1 : World} (h : Upd b w w1) {S : Nat → Prop} (hb : S b) : Mods S w w1 := (Mods.refl S w).grown h (fun k hk => by injection hk with hk; subst hk; exact .inl hb)
theorem Below.mods_ {w w1 : World} (h : Below w.heap.size w w1) (S : Nat → Prop) : Mods S w w1 := ⟨h.os, h.tape, h.output, h.size, fun k hk _ => h.block k hk⟩
theorem Ob.mods {S : Nat → Prop} {w w' : World} {b : Nat} {t : TypeId} {cs : List Value} (h : Ob w b t cs) (hm : Mods S w w') (hn : ¬ S b) : Ob w' b t cs := by
  unfold Ob; rw [hm.block b h.lt hn]; exact h
theorem Below.mods {B : Nat} {S : Nat → Prop} {a w w' : World} (h : Below B a w) (hm : Mods S w w') (hS : ∀ k, S k → B ≤ k) (hB : B ≤ w.heap.size) : Below B a w' :=
  h.trans ⟨hm.os, hm.tape, hm.output, hm.size, fun k hk => hm.block k (by omega) (fun hs => by have := hS k hs; omega)⟩
theorem own_mods {S : Nat → Prop} {w w' : World} {base n size : Nat} {e : TypeId} {v : Value} {xs : List Value} (h : w.ownsRow base e size v n xs) (hm : Mods S w w') (hn : ∀ k, v.ownBlock = some k → ¬ S k) : w'.ownsRow base e size v n xs := by
  refine ⟨h.1, ?_⟩
  rcases h.2 with h2 | ⟨g, cap, cur, rfl, hb, hh, h3⟩
  · exact .inl h2
  · exact .inr ⟨g, cap, cur, rfl, hb, by rw [hm.block g (Array.getElem?_eq_some_iff.1 hh).1 (hn g rfl)]; exact hh, h3⟩

/-- One element is appended to a row of the call's own, out of a new block. -/
theorem append1 {P : Program} {w : World} {ops : Array Oper} {rest : List Oper} {o : Oper} {a : Act} {Q : Exit → Act → World → Prop} (hgd : o.guard = none) (s x : Operand) (t : TypeId)
    (ho : o.op = .call { callee := .builtin .append, args := #[s, x], argTypes := #[t, t] })
    (base : Nat) (e : TypeId) (i : TypeInfo) (z : Value) (size bytes : Nat) (ht : P.underlying t = some (.slice e)) (hi : P.info? e = some i) (hz : i.zero = some z)
    (hsize : i.size = size) (hby : i.bytes = bytes) (hzs : z.cells.size = size) (hsz : 0 < size)
    (v : Value) (n : Nat) (xs : List Value) (hs : a.eval s = v) (hown : w.ownsRow base e size v n xs)
    (g : Nat) (news : List Value) (hx : a.eval x = .slice (some ⟨g, 0, none⟩) 1 1) (hob : Ob w g e news) (hl : news.length = size) (h1 : ∀ u ∈ news, u.oneCell' = true)
    (h63 : n + 1 ≤ 1000000) (hb9 : bytes ≤ 1000000) (hbase : base ≤ w.heap.size)
    (h : ∀ v' w', w'.ownsRow base e size v' (n + 1) (xs ++ news) → w.grownBy w' v.ownBlock → (v'.ownBlock = v.ownBlock ∨ v'.ownBlock = some w.heap.size) → wpList P ops Q rest (a.put o.dst v') w') : wpList P ops Q (o :: rest) a w := by
  refine wpList_plain hgd fun _ hK => ?_
  obtain ⟨v', w', hrun, h2, h3, _, h5⟩ := run_append_own_at (P := P) w base t o.type e i z size bytes ht hi hz hsize hby hzs hsz v n xs hown ⟨g, 0, none⟩ 1 1 news (by simpa using hl)
    (fun j u hu => by rw [Go.WideShapes.add_plain, Nat.zero_add]; exact (hob.cell j).trans hu) h1 (by simp only [maxLen]; omega)
    (by have : (n + 1) * bytes ≤ 1000000 * 1000000 := Nat.mul_le_mul h63 hb9; omega) hbase
  unfold Oper.wp execOp
  simp only [ho, resolve, invoke, builtin, Sem.run_bind, Sem.run_pure, Result.andThen_ok, List.map_toArray, List.map_cons, List.map_nil, hs, hx, hrun]
  exact hK _ _ (h v' w' h2 h3 h5)
theorem Ob.new2 (W : World) (o : Obj) (t : TypeId) (cs : List Value) : Ob ((W.alloc o).alloc (.cells cs.toArray t)) (W.heap.size + 1) t cs := by
  have := Ob.new (W.alloc o) t cs
  rwa [World.size_alloc] at this

end Go.Proofs.Ytfmmaigaanikgaa
