import Derived.Test.YtjhlaifflhjafaaProg
import Derived.WalkKit
import Derived.WalkSpells
import Derived.WalkLawsBesides
import Derived.BigQuiet
import Derived.StillTailTactics
import Derived.Lib.Hide
import Derived.Deep.AppendLies
import Derived.Deep.OwnRows
import Derived.Deep.DeepCutAuto
import Derived.Maps.AppendAt
import Derived.Laws.CopyOwn
import Derived.WalkSmall
namespace Go.Proofs.Ytjhlaifflhjafaa
open Go.RowKit

/-! A region that draws its order: reads first, then one write (behind n). -/
theorem Oper.still_of_quiet {P : Program} {o : Oper} {a : Act} {w : World} {K : Act → Prop} (h : o.quiet P a (fun w' => w' = w) K) : o.still P a w K := by
  obtain ⟨v, h1, h2⟩ := h
  have h1 := h1 w rfl
  unfold Oper.quietAt at h1
  unfold Oper.still
  generalize (execOp a.eval o).run P w = r at h1
  cases r with
  | ok n w' =>
    cases n <;> simp only [Oper.quietUpon, Oper.stillUpon] at h1 ⊢
    case value u => exact ⟨h1.1, h1.2 ▸ h2⟩
    case skip => exact ⟨h1.1, h1.2 ▸ h2⟩
    case enter f args => exact ⟨h1.1, v, h1.1 ▸ h1.2, h2⟩
  | halt x w' => simp only [Oper.quietUpon] at h1
theorem wpStill_of_quiet {P : Program} {ops : Array Oper} {w : World} {Q : Act → Prop} : ∀ (l : List Oper) (a : Act), wpQuiet P ops (fun w' => w' = w) Q l a → wpStill P ops w Q l a
  | [], _, h => h
  | o :: l, a, h => by
    unfold wpQuiet at h
    unfold wpStill
    split
    · rename_i hw
      rw [if_pos hw] at h
      exact Oper.still_mono (fun a' h' => wpStill_of_quiet l a' h') (Oper.still_of_quiet h)
    · rename_i hw
      rw [if_neg hw] at h
      exact wpStill_of_quiet l _ h
theorem wp_region_tail {P : Program} {id : Nat} {Q : Exit → Act → World → Prop} {a : Act} {w : World} {l : List Oper} (n : Nat) (hm : P.follows .mixedOrders = true) (hB : Region.lexTailB .any l.toArray n = true)
    (h : wpQuiet P l.toArray (fun w' => w' = w.drew) (fun a' => wpList P l.toArray Q (l.drop n) a' w.drew) (l.take n) a) : (Code.region id l.toArray true).wp P Q a w :=
  wp_region_still_tail n hm hB (wpStill_of_quiet _ _ h)

/-- What is known of the world, in the place of the world. -/
theorem cutW {P : Program} {c : Code} {Q : Exit → Act → World → Prop} {a : Act} {w : World} (F : World → Prop) (h : F w) (k : ∀ w, F w → c.wp P Q a w) : c.wp P Q a w := k w h

/-! Struct equality, field by field. -/
section
variable {P : Program} {d : Nat} {xs ys : Array Value} {f : Field} {fs : List Field} {a b : Value} {r s : Bool} {w : World}
theorem eqf_nil : (Op.eqFields d xs ys []).run P w = .ok true w := by simp [Op.eqFields]
theorem eqf_cons (hn : (f.name == "_") = false) (ha : (part f.type xs f.offset).run P w = .ok a w) (hb : (part f.type ys f.offset).run P w = .ok b w) (he : (Op.equalIn d f.type a b).run P w = .ok r w) (hr : (Op.eqFields d xs ys fs).run P w = .ok s w) : (Op.eqFields d xs ys (f :: fs)).run P w = .ok (r && s) w := by
  have hn' : f.name ≠ "_" := by simpa using hn
  rw [Op.eqFields]
  simp only [if_pos hn', Sem.run_bind, ha, hb, he, Result.andThen_ok]
  cases r
  · simp
  · simpa using hr
theorem eqA_of {t : TypeId} {fs : Array Field} (hu : P.underlying t = some (.struct fs)) (hp : P.stoodInHeld t = false) (h : (Op.eqFields d xs ys fs.toList).run P w = .ok r w) : (Op.equalIn (d + 1) t (.agg xs) (.agg ys)).run P w = .ok r w := by
  have hf : P.fieldsOf t = fs := by simp [Program.fieldsOf, hu]
  rw [run_equalIn_struct (P := P) w d t xs ys (by rw [hf]; exact hu) hp, hf]
  exact h
theorem eqI {t : TypeId} {k k' : IntKind} {m n : Int} (h : P.underlying t = some (.int k')) : (Op.equalIn (d + 1) t (.int k m) (.int k n)).run P w = .ok (m == n) w := run_equalIn_int w d t k k' m n h
end

/-- The block b is a whole object of cells cs. -/
def Ob (w : World) (b : Nat) (t : TypeId) (cs : List Value) : Prop := w.heap[b]? = some (.cells cs.toArray t (0, 0))

theorem Ob.cell {w : World} {b : Nat} {t : TypeId} {cs : List Value} (h : Ob w b t cs) (i : Nat) : w.cell? ⟨b, i, none⟩ = cs[i]? := by
  simp [World.cell?, show w.heap[b]? = _ from h]

theorem Ob.lt {w : World} {b : Nat} {t : TypeId} {cs : List Value} (h : Ob w b t cs) : b < w.heap.size := (Array.getElem?_eq_some_iff.1 h).1

theorem Ob.frozen {w : World} {b : Nat} {t : TypeId} {cs : List Value} (h : Ob w b t cs) (i : Nat) : w.frozen? ⟨b, i, none⟩ = false := by
  simp [World.frozen?, show w.heap[b]? = _ from h]

theorem Ob.alloc {w : World} {b : Nat} {t : TypeId} {cs : List Value} (h : Ob w b t cs) (o : Obj) : Ob (w.alloc o) b t cs := by
  unfold Ob; rw [Below.heap_alloc _ _ _ h.lt]; exact h
theorem Ob.drewN {w : World} {b : Nat} {t : TypeId} {cs : List Value} (h : Ob w b t cs) (n : Nat) : Ob (w.drewN n) b t cs := h
theorem Ob.drew {w : World} {b : Nat} {t : TypeId} {cs : List Value} (h : Ob w b t cs) : Ob w.drew b t cs := h
theorem Ob.set {w : World} {b : Nat} {t : TypeId} {cs : List Value} (h : Ob w b t cs) (i : Nat) (v : Value) : Ob (w.setCell ⟨b, i, none⟩ v) b t (cs.set i v) := by
  unfold Ob at *
  have hl : b < w.heap.size := (Array.getElem?_eq_some_iff.1 h).1
  simp [World.setCell, Array.getElem?_modify, h]

/-- w' is w but for what block b holds, and new blocks. -/
def Upd (b : Nat) (w w' : World) : Prop := w.grownBy w' (some b)
theorem Upd.refl (b : Nat) (w : World) : Upd b w w := ⟨rfl, rfl, rfl, Nat.le_refl _, fun _ _ _ => rfl⟩
theorem Upd.trans {b : Nat} {w w1 w2 : World} (h : Upd b w w1) (k : Upd b w1 w2) : Upd b w w2 :=
  ⟨k.os.trans h.os, k.tape.trans h.tape, k.output.trans h.output, Nat.le_trans h.size k.size, fun i hi hn => (k.block i (Nat.lt_of_lt_of_le hi h.size) hn).trans (h.block i hi hn)⟩
theorem Upd.alloc {b : Nat} {w w1 : World} (h : Upd b w w1) (o : Obj) : Upd b w (w1.alloc o) :=
  h.trans ⟨rfl, rfl, rfl, by simp, fun k hk _ => Below.heap_alloc _ _ _ hk⟩
theorem Upd.drewN {b : Nat} {w w1 : World} (h : Upd b w w1) (n : Nat) : Upd b w (w1.drewN n) := ⟨h.os, h.tape, h.output, h.size, h.block⟩
theorem Upd.drew {b : Nat} {w w1 : World} (h : Upd b w w1) : Upd b w w1.drew := ⟨h.os, h.tape, h.output, h.size, h.block⟩
theorem Upd.set {b : Nat} {w w1 : World} (h : Upd b w w1) (i : Nat) (v : Value) : Upd b w (w1.setCell ⟨b, i, none⟩ v) :=
  h.trans ⟨rfl, rfl, rfl, by simp [World.setCell], fun k _ hn => Below.heap_setCell _ _ _ _ (fun e => hn (by rw [e]))⟩
theorem Upd.setNew {b : Nat} {w w1 : World} (h : Upd b w w1) (a : Addr) (ha : w.heap.size ≤ a.block) (v : Value) : Upd b w (w1.setCell a v) :=
  ⟨h.os, h.tape, h.output, Nat.le_trans h.size (by simp [World.setCell]), fun k hk hn => (Below.heap_setCell _ _ _ _ (by omega)).trans (h.block k hk hn)⟩


theorem Ob.new (w : World) (t : TypeId) (cs : List Value) : Ob (w.alloc (.cells cs.toArray t)) w.heap.size t cs := by
  exact (MapKept.heap_alloc w _).1
theorem Ob.upd {w w' : World} {b b' : Nat} {t : TypeId} {cs : List Value} (h : Ob w b t cs) (hu : Upd b' w w') (hne : b ≠ b') : Ob w' b t cs := by
  unfold Ob; rw [hu.block b h.lt (by simpa using hne)]; exact h
theorem Ob.below {B : Nat} {w w' : World} {b : Nat} {t : TypeId} {cs : List Value} (h : Ob w b t cs) (hu : Below B w w') (hne : b < B) : Ob w' b t cs := by
  unfold Ob; rw [hu.block b hne]; exact h
theorem Below.upd {B : Nat} {a w w' : World} {b : Nat} (h : Below B a w) (hu : Upd b w w') (hb : B ≤ b) (hB : B ≤ w.heap.size) : Below B a w' :=
  h.grown hu hB (fun k hk => by injection hk with hk; omega)
theorem Below.drewN {B : Nat} {a w : World} (h : Below B a w) (n : Nat) : Below B a (w.drewN n) := ⟨h.os, h.tape, h.output, h.size, h.block⟩

/-! A slice that reads as a list of cells (n elements of sz cells each), nil let in. -/
def Rd (w : World) (A : Option Addr) (n sz : Nat) (xs : List Value) : Prop :=
  xs.length = n * sz ∧ n ≤ 9223372036854775807 ∧ (0 < n → ∃ b off, A = some ⟨b, off, none⟩ ∧ b < w.heap.size ∧ ∀ j u, xs[j]? = some u → w.cell? ⟨b, off + j, none⟩ = some u)
theorem Rd.nil (w : World) (sz : Nat) : Rd w none 0 sz [] := ⟨by simp, by omega, fun h => absurd h (by omega)⟩
theorem Rd.below {w w' : World} {A : Option Addr} {n sz : Nat} {xs : List Value} (h : Rd w A n sz xs) (hb : Below w.heap.size w w') : Rd w' A n sz xs :=
  ⟨h.1, h.2.1, fun hn => by
    obtain ⟨b, off, e, hl, hc⟩ := h.2.2 hn
    exact ⟨b, off, e, Nat.lt_of_lt_of_le hl hb.size, fun j u hu => (hb.cell (p := ⟨b, off + j, none⟩) hl).trans (hc j u hu)⟩⟩
theorem Rd.at_ {w : World} {A : Option Addr} {n sz : Nat} {xs : List Value} (h : Rd w A n sz xs) (hn : 0 < n) : ∃ b off, A = some ⟨b, off, none⟩ ∧ b < w.heap.size ∧ ∀ j u, xs[j]? = some u → w.cell? ⟨b, off + j, none⟩ = some u := h.2.2 hn
theorem Rd.take {w : World} {A : Option Addr} {n sz : Nat} {xs : List Value} (h : Rd w A n sz xs) {m : Nat} (hm : m ≤ n) : Rd w A m sz (xs.take (m * sz)) := by
  refine ⟨?_, by have := h.2.1; omega, fun hp => ?_⟩
  · rw [List.length_take, h.1, Nat.min_eq_left (Nat.mul_le_mul_right sz hm)]
  · obtain ⟨b, off, e, hl, hc⟩ := h.2.2 (by omega)
    exact ⟨b, off, e, hl, fun j u hu => hc j u (by rw [List.getElem?_take] at hu; split at hu <;> simp_all)⟩
theorem Rd.of_own {w : World} {base n size c : Nat} {e : TypeId} {A : Option Addr} {xs : List Value} (h : w.ownsRow base e size (.slice A n c) n xs) : Rd w A n size xs := by
  refine ⟨h.1, ?_, fun hn => ?_⟩
  · rcases h.2 with ⟨_, h0⟩ | ⟨g, cap, cur, _, _, _, h1, h2, _⟩
    · omega
    · simp only [maxLen] at h2; omega
  · obtain ⟨g, cap, hv, _, hlt⟩ := h.form hn
    have hA : A = some ⟨g, 0, none⟩ := by injection hv
    subst hA
    exact ⟨g, 0, rfl, hlt, fun j u hu => by rw [← Go.WideShapes.add_plain]; exact h.cells (g := g) rfl j u hu⟩
theorem flat_at {α β : Type} (f : α → List β) (sz : Nat) (hf : ∀ x, (f x).length = sz) : ∀ (l : List α) (i j : Nat) (x : α), l[i]? = some x → j < sz → (l.flatMap f)[i * sz + j]? = (f x)[j]?
  | [], i, j, x, h, _ => by simp at h
  | a :: l, 0, j, x, h, hj => by
    simp only [List.getElem?_cons_zero, Option.some.injEq] at h
    subst h
    rw [List.flatMap_cons, Nat.zero_mul, Nat.zero_add, List.getElem?_append_left (by rw [hf]; exact hj)]
  | a :: l, i + 1, j, x, h, hj => by
    simp only [List.getElem?_cons_succ] at h
    rw [List.flatMap_cons, List.getElem?_append_right (by rw [hf, Nat.succ_mul]; omega), hf, ← flat_at f sz hf l i j x h hj]
    congr 1
    rw [Nat.succ_mul]
    omega
theorem flat_len {α β : Type} (f : α → List β) (sz : Nat) (hf : ∀ x, (f x).length = sz) : ∀ (l : List α), (l.flatMap f).length = l.length * sz
  | [] => by simp
  | a :: l => by rw [List.flatMap_cons, List.length_append, hf, flat_len f sz hf l, List.length_cons, Nat.succ_mul]; omega


theorem Ob.grown {w w' : World} {b : Nat} {t : TypeId} {cs : List Value} {row : Option Nat} (h : Ob w b t cs) (hg : w.grownBy w' row) (hne : ∀ k, row = some k → b ≠ k) : Ob w' b t cs := by
  unfold Ob; rw [hg.block b h.lt (fun e => hne b e.symm rfl)]; exact h
theorem own_shape {w : World} {base n size : Nat} {e : TypeId} {v : Value} {xs : List Value} (h : w.ownsRow base e size v n xs) : ∃ A c, v = .slice A n c ∧ Rd w A n size xs ∧ n ≤ c ∧ c ≤ 9223372036854775807 := by
  have h' := h
  rcases h.2 with ⟨rfl, rfl⟩ | ⟨g, cap, cur, rfl, _, _, h1, h2, _⟩
  · exact ⟨none, 0, rfl, Rd.of_own h', Nat.le_refl _, by omega⟩
  · simp only [maxLen] at h2
    exact ⟨_, cap, rfl, Rd.of_own h', h1, by omega⟩
theorem own_block {w : World} {base n size : Nat} {e : TypeId} {v : Value} {xs : List Value} (h : w.ownsRow base e size v n xs) (k : Nat) (hk : v.ownBlock = some k) : base ≤ k := by
  rcases h.2 with ⟨rfl, _⟩ | ⟨g, cap, cur, rfl, hb, _⟩
  · simp [Value.ownBlock] at hk
  · have : g = k := by simpa [Value.ownBlock] using hk
    omega
theorem own_upd {w w' : World} {base n size s : Nat} {e : TypeId} {v : Value} {xs : List Value} (h : w.ownsRow base e size v n xs) (hu : Upd s w w') (hs : s < base) : w'.ownsRow base e size v n xs := by
  refine h.kept hu ?_
  cases hb : v.ownBlock with
  | none => exact .inl rfl
  | some k => exact .inr (fun e => by have := own_block h k hb; injection e; omega)
theorem own_nil (W : World) (base : Nat) (e : TypeId) (size : Nat) : W.ownsRow base e size (.slice none 0 0) 0 [] := ⟨by simp, .inl ⟨rfl, rfl⟩⟩
theorem own_drewN {w : World} {base n size : Nat} {e : TypeId} {v : Value} {xs : List Value} (h : w.ownsRow base e size v n xs) (k : Nat) : (w.drewN k).ownsRow base e size v n xs := h
theorem own_lt {w : World} {base n size : Nat} {e : TypeId} {v : Value} {xs : List Value} (h : w.ownsRow base e size v n xs) (k : Nat) (hk : v.ownBlock = some k) : k < w.heap.size := by
  rcases h.2 with ⟨rfl, _⟩ | ⟨g, cap, cur, rfl, hb, hh, _⟩
  · simp [Value.ownBlock] at hk
  · have : g = k := by simpa [Value.ownBlock] using hk
    subst this
    exact (Array.getElem?_eq_some_iff.1 hh).1

/-- w' is w but for what the blocks of S hold, and new blocks. -/
structure Mods (S : Nat → Prop) (w w' : World) : Prop where
  os : w'.os = w.os
  tape : w'.tape = w.tape
  output : w'.output = w.output
  size : w.heap.size ≤ w'.heap.size
  block : ∀ k, k < w.heap.size → ¬ S k → w'.heap[k]? = w.heap[k]?
theorem Mods.refl (S : Nat → Prop) (w : World) : Mods S w w := ⟨rfl, rfl, rfl, Nat.le_refl _, fun _ _ _ => rfl⟩
theorem Mods.trans {S : Nat → Prop} {w w1 w2 : World} (h : Mods S w w1) (k : Mods S w1 w2) : Mods S w w2 :=
  ⟨k.os.trans h.os, k.tape.trans h.tape, k.output.trans h.output, Nat.le_trans h.size k.size, fun i hi hn => (k.block i (Nat.lt_of_lt_of_le hi h.size) hn).trans (h.block i hi hn)⟩
theorem Mods.mono {S T : Nat → Prop} {w w1 : World} (h : Mods S w w1) (hs : ∀ k, k < w.heap.size → S k → T k) : Mods T w w1 :=
  ⟨h.os, h.tape, h.output, h.size, fun i hi hn => h.block i hi (fun hk => hn (hs i hi hk))⟩
theorem Mods.alloc {S : Nat → Prop} {w w1 : World} (h : Mods S w w1) (o : Obj) : Mods S w (w1.alloc o) :=
  h.trans ⟨rfl, rfl, rfl, by simp, fun k hk _ => Below.heap_alloc _ _ _ hk⟩
theorem Mods.drewN {S : Nat → Prop} {w w1 : World} (h : Mods S w w1) (n : Nat) : Mods S w (w1.drewN n) := ⟨h.os, h.tape, h.output, h.size, h.block⟩
theorem Mods.drew {S : Nat → Prop} {w w1 : World} (h : Mods S w w1) : Mods S w w1.drew := ⟨h.os, h.tape, h.output, h.size, h.block⟩
theorem Mods.setCell {S : Nat → Prop} {w w1 : World} (h : Mods S w w1) (a : Addr) (ha : S a.block ∨ w.heap.size ≤ a.block) (v : Value) : Mods S w (w1.setCell a v) :=
  ⟨h.os, h.tape, h.output, Nat.le_trans h.size (by simp [World.setCell]), fun k hk hn => (Below.heap_setCell _ _ _ _ (fun e => by subst e; rcases ha with ha | ha; exact hn ha; omega)).trans (h.block k hk hn)⟩
theorem Mods.grown {S : Nat → Prop} {w w1 w2 : World} {row : Option Nat} (h : Mods S w w1) (hg : w1.grownBy w2 row) (hr : ∀ k, row = some k → S k ∨ w.heap.size ≤ k) : Mods S w w2 :=
  ⟨hg.os.trans h.os, hg.tape.trans h.tape, hg.output.trans h.output, Nat.le_trans h.size hg.size, fun k hk hn => (hg.block k (Nat.lt_of_lt_of_le hk h.size) (fun e => by rcases hr k e.symm with h1 | h1; exact hn h1; omega)).trans (h.block k hk hn)⟩
theorem Upd.mods {b : Nat} {w w1 : World} (h : Upd b w w1) {S : Nat → Prop} (hb : S b) : Mods S w w1 := (Mods.refl S w).grown h (fun k hk => by injection hk with hk; subst hk; exact .inl hb)
theorem Below.mods_ {w w1 : World} (h : Below w.heap.size w w1) (S : Nat → Prop) : Mods S w w1 := ⟨h.os, h.tape, h.output, h.size, fun k hk _ => h.block k hk⟩
theorem Ob.mods {S : Nat → Prop} {w w' : World} {b : Nat} {t : TypeId} {cs : List Value} (h : Ob w b t cs) (hm : Mods S w w') (hn : ¬ S b) : Ob w' b t cs := by
  unfold Ob; rw [hm.block b h.lt hn]; exact h
theorem Below.mods {B : Nat} {S : Nat → Prop} {a w w' : World} (h : Below B a w) (hm : Mods S w w') (hS : ∀ k, S k → B ≤ k) (hB : B ≤ w.heap.size) : Below B a w' :=
  h.trans ⟨hm.os, hm.tape, hm.output, hm.size, fun k hk => hm.block k (by omega) (fun hs => by have := hS k hs; omega)⟩
theorem own_mods {S : Nat → Prop} {w w' : World} {base n size : Nat} {e : TypeId} {v : Value} {xs : List Value} (h : w.ownsRow base e size v n xs) (hm : Mods S w w') (hn : ∀ k, v.ownBlock = some k → ¬ S k) : w'.ownsRow base e size v n xs := by
  refine ⟨h.1, ?_⟩
  rcases h.2 with h2 | ⟨g, cap, cur, rfl, hb, hh, h3⟩
  · exact .inl h2
  · exact .inr ⟨g, cap, cur, rfl, hb, by rw [hm.block g (Array.getElem?_eq_some_iff.1 hh).1 (hn g rfl)]; exact hh, h3⟩

/-- One element is appended to a row of the call's own, out of a new block. -/
theorem append1 {P : Program} {w : World} {ops : Array Oper} {rest : List Oper} {o : Oper} {a : Act} {Q : Exit → Act → World → Prop} (hgd : o.guard = none) (s x : Operand) (t : TypeId)
    (ho : o.op = .call { callee := .builtin .append, args := #[s, x], argTypes := #[t, t] })
    (base : Nat) (e : TypeId) (i : TypeInfo) (z : Value) (size bytes : Nat) (ht : P.underlying t = some (.slice e)) (hi : P.info? e = some i) (hz : i.zero = some z)
    (hsize : i.size = size) (hby : i.bytes = bytes) (hzs : z.cells.size = size) (hsz : 0 < size)
    (v : Value) (n : Nat) (xs : List Value) (hs : a.eval s = v) (hown : w.ownsRow base e size v n xs)
    (g : Nat) (news : List Value) (hx : a.eval x = .slice (some ⟨g, 0, none⟩) 1 1) (hob : Ob w g e news) (hl : news.length = size) (h1 : ∀ u ∈ news, u.oneCell' = true)
    (h63 : n + 1 ≤ 1000000) (hb9 : bytes ≤ 1000000) (hbase : base ≤ w.heap.size)
    (h : ∀ v' w', w'.ownsRow base e size v' (n + 1) (xs ++ news) → w.grownBy w' v.ownBlock → (v'.ownBlock = v.ownBlock ∨ v'.ownBlock = some w.heap.size) → wpList P ops Q rest (a.put o.dst v') w') : wpList P ops Q (o :: rest) a w := by
  refine wpList_plain hgd fun _ hK => ?_
  obtain ⟨v', w', hrun, h2, h3, _, h5⟩ := run_append_own_at (P := P) w base t o.type e i z size bytes ht hi hz hsize hby hzs hsz v n xs hown ⟨g, 0, none⟩ 1 1 news (by simpa using hl)
    (fun j u hu => by rw [Go.WideShapes.add_plain, Nat.zero_add]; exact (hob.cell j).trans hu) h1 (by simp only [maxLen]; omega)
    (by have : (n + 1) * bytes ≤ 1000000 * 1000000 := Nat.mul_le_mul h63 hb9; omega) hbase
  unfold Oper.wp execOp
  simp only [ho, resolve, invoke, builtin, Sem.run_bind, Sem.run_pure, Result.andThen_ok, List.map_toArray, List.map_cons, List.map_nil, hs, hx, hrun]
  exact hK _ _ (h v' w' h2 h3 h5)
theorem Ob.new2 (W : World) (o : Obj) (t : TypeId) (cs : List Value) : Ob ((W.alloc o).alloc (.cells cs.toArray t)) (W.heap.size + 1) t cs := by
  have := Ob.new (W.alloc o) t cs
  rwa [World.size_alloc] at this

theorem Below.alloc_set {w : World} {o : Obj} : Below w.heap.size w (w.alloc o) := (Below.refl _ _).alloc (Nat.le_refl _) _
theorem ret_int {k : IntKind} {a b : Int} (h : a = b) : Ending.returned (.int k a) = .returned (.int k b) := by rw [h]
theorem ret_bool {a b : Bool} (h : a = b) : Ending.returned (.bool a) = .returned (.bool b) := by rw [h]
/-- 'copy(x, x[1:])' on a row of the call's own: behind it the row without its last place reads as the list without its first. -/
theorem copy_shift {P : Program} {w : World} {ops : Array Oper} {rest : List Oper} {o : Oper} {a : Act} {Q : Exit → Act → World → Prop} (hgd : o.guard = none) (d s : Operand) (t : TypeId)
    (ho : o.op = .call { callee := .builtin .copy, args := #[d, s], argTypes := #[t, t] }) (e : TypeId) (hu : P.underlying t = some (.slice e)) (hsz : (P.info? e).map (·.size) = some 1)
    (base g q c c' : Nat) (xs : List Value) (hown : w.ownsRow base e 1 (.slice (some ⟨g, 0, none⟩) (q + 1) c) (q + 1) xs) (h1 : ∀ u ∈ xs, u.oneCell' = true)
    (A' : Option Addr) (hd : a.eval d = .slice (some ⟨g, 0, none⟩) (q + 1) c) (hs : a.eval s = .slice A' q c') (hA : 0 < q → A' = some ⟨g, 1, none⟩)
    (h : ∀ w', w'.ownsRow base e 1 (.slice (some ⟨g, 0, none⟩) q c) q (xs.drop 1) → Mods (fun k => k = g) w w' → wpList P ops Q rest (a.put o.dst (goInt q)) w') : wpList P ops Q (o :: rest) a w := by
  have hx := hown.1
  rcases hown.2 with ⟨h0, _⟩ | ⟨g', cap, cur, hv, hb, hh, hn, hcap, hs2, ht⟩
  · cases h0
  injection hv with e1 e2 e3
  injection e1 with e1
  injection e1 with e1 _ _
  subst e1; subst e3
  rcases Nat.eq_zero_or_pos q with hq | hq
  · subst hq
    refine wpList_copy_nothing hgd d s t t ho e hu hsz _ _ _ _ _ _ hd hs (by simp) ?_
    refine h w ⟨by simp [hx], .inr ⟨g, c, cur, rfl, hb, hh, by omega, hcap, hs2, ?_⟩⟩ (Mods.refl _ _)
    have : xs.drop 1 = [] := List.eq_nil_of_length_eq_zero (by simp [hx])
    rw [this]; simp
  · rw [hA hq] at hs
    have hlen : (xs.drop 1).length = q := by simp [hx]
    have hcs : cur.toList.length = c := by simpa using hs2
    refine wpList_copy_own hgd d s t t ho e hu hsz g 0 (q + 1) c ⟨g, 1, none⟩ q c' hd hs cur e hh (xs.drop 1) (by rw [hlen]; simp) ?_ (by rw [hlen]; simp at hcs; omega) (fun u hu => h1 u (List.mem_of_mem_drop hu)) ?_
    · intro j u hu
      have := hown.cells (g := g) rfl (j + 1) u (by rw [← hu, List.getElem?_drop, Nat.add_comm])
      rw [Go.WideShapes.add_plain] at this ⊢
      rw [show 1 + j = 0 + (j + 1) by omega]
      exact this
    · rw [hlen]
      refine h _ ⟨by simp [hx], .inr ⟨g, c, _, rfl, hb, setRow_heap w g cur _ e (0, 0) hh, by omega, hcap, ?_, ?_⟩⟩ ⟨rfl, rfl, rfl, by simp, fun k _ hk => setRow_other w g k _ hk⟩
      · simp [hx]; simp at hcs; omega
      · simp [hx]


end Go.Proofs.Ytjhlaifflhjafaa
