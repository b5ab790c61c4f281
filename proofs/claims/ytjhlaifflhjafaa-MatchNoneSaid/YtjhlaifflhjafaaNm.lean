import Derived.Test.YtjhlaifflhjafaaNj
import Derived.Maps.OwnSet
import Derived.Maps.Keyed
namespace Go.Proofs.Ytjhlaifflhjafaa
open Go.RowKit Go.Maps

/-! The levels of a side: a map by the price, as a list in the order in which the prices came. -/
structure Lv where
  price : Int
  qty : Int
  orders : Int
def lvC (x : Lv) : List Value := [.int .i64 x.price, .int .i64 x.qty, .int .i64 x.orders]
def Lv.agg (x : Lv) : Value := .agg #[.int .i64 x.price, .int .i64 x.qty, .int .i64 x.orders]
theorem lvC_len (x : Lv) : (lvC x).length = 3 := rfl
theorem lvC_one (x : Lv) : ∀ u ∈ lvC x, u.oneCell' = true := by simp [lvC, Value.oneCell']
def zLv : Lv := ⟨0, 0, 0⟩
def lkL : List Lv → Int → Option Lv
  | [], _ => none
  | x :: r, key => if x.price = key then some x else lkL r key
def putL : List Lv → Lv → List Lv
  | [], x => [x]
  | y :: r, x => if y.price = x.price then x :: r else y :: putL r x
theorem lk_same (l : List Lv) (x : Lv) : lkL (putL l x) x.price = some x := by
  induction l with
  | nil => simp [putL, lkL]
  | cons y r ih =>
    unfold putL
    split
    · simp [lkL]
    · rename_i h; simp [lkL, h, ih]
theorem lk_other (l : List Lv) (x : Lv) (k : Int) (h : k ≠ x.price) : lkL (putL l x) k = lkL l k := by
  induction l with
  | nil => simp [putL, lkL, Ne.symm h]
  | cons y r ih =>
    unfold putL
    split
    · rename_i hj
      simp [lkL, hj, Ne.symm h]
    · simp only [lkL]; rw [ih]
theorem lk_price {l : List Lv} {k : Int} {x : Lv} (h : lkL l k = some x) : x.price = k ∧ x ∈ l := by
  induction l with
  | nil => simp [lkL] at h
  | cons y r ih =>
    unfold lkL at h
    split at h
    · rename_i hy
      injection h with h
      subst h
      exact ⟨hy, List.mem_cons_self ..⟩
    · exact ⟨(ih h).1, List.mem_cons_of_mem _ (ih h).2⟩
theorem lk_none {l : List Lv} {k : Int} (h : lkL l k = none) : ¬ k ∈ l.map (·.price) := by
  induction l with
  | nil => simp
  | cons y r ih =>
    unfold lkL at h
    split at h
    · cases h
    · rename_i hy
      intro hm
      rw [List.map_cons] at hm
      rcases List.mem_cons.1 hm with hm | hm
      · exact hy hm.symm
      · exact ih h hm
theorem lk_nodup {l : List Lv} (hd : (l.map (·.price)).Nodup) {j : Nat} {x : Lv} (hj : l[j]? = some x) : lkL l x.price = some x := by
  induction l generalizing j with
  | nil => simp at hj
  | cons y r ih =>
    rw [List.map_cons, List.nodup_cons] at hd
    cases j with
    | zero =>
      simp only [List.getElem?_cons_zero, Option.some.injEq] at hj
      subst hj
      simp [lkL]
    | succ j =>
      have hm : x ∈ r := List.mem_of_getElem? (by simpa using hj)
      unfold lkL
      rw [if_neg (fun e => hd.1 (by rw [e]; exact List.mem_map_of_mem hm))]
      exact ih hd.2 (by simpa using hj)
theorem putL_len (l : List Lv) (x : Lv) : (putL l x).length = if (lkL l x.price).isSome then l.length else l.length + 1 := by
  induction l with
  | nil => simp [putL, lkL]
  | cons y r ih =>
    unfold putL lkL
    split
    · simp
    · simp only [List.length_cons, ih]; split <;> rfl
theorem putL_prices (l : List Lv) (x : Lv) : (putL l x).map (·.price) = if (lkL l x.price).isSome then l.map (·.price) else l.map (·.price) ++ [x.price] := by
  induction l with
  | nil => simp [putL, lkL]
  | cons y r ih =>
    unfold putL lkL
    split
    · rename_i h; simp [h]
    · simp only [List.map_cons, ih]; split <;> rfl
theorem putL_mem {l : List Lv} {x y : Lv} (h : y ∈ putL l x) : y = x ∨ y ∈ l := by
  induction l with
  | nil => simpa [putL] using h
  | cons z r ih =>
    unfold putL at h
    split at h
    · rcases List.mem_cons.1 h with h | h
      · exact .inl h
      · exact .inr (List.mem_cons_of_mem _ h)
    · rcases List.mem_cons.1 h with h | h
      · exact .inr (by rw [h]; exact List.mem_cons_self ..)
      · rcases ih h with h | h
        · exact .inl h
        · exact .inr (List.mem_cons_of_mem _ h)

def Rv (v : Value) : Option (DataW Value × List MemPlace) := some (.held v, [])
def il (k : Int) : Lit := .int .i64 k
theorem il_inj {a b : Int} (h : il a = il b) : a = b := by unfold il at h; injection h
theorem il_key (k : Int) : WideAt.IsKeyLit (il k) := by trivial
/-- Block g is the map of l. -/
structure MpAt (w : World) (g : Nat) (l : List Lv) : Prop where
  own : ∃ D : DataW Value, w.ownsMap Try.prog 3 Rv g l.length D ∧ (∀ k, has D (il k) = (lkL l k).isSome) ∧ (∀ k x, lkL l k = some x → ∀ z, D.atKey (il k) z = .held x.agg) ∧ size D = l.length
theorem law3i : Keyed Try.prog 3 := int_keyed Try.underlying3
theorem tight3 {w : World} {g n : Nat} {D : DataW Value} (h : w.ownsMap Try.prog 3 Rv g n D) : w.ownsMap Try.prog 3 Rv g (size D) D := by
  obtain ⟨es, clock, hb, F, hs, rfl⟩ := h
  exact ⟨es, clock, hb, F, by simp [size, length_sorted], rfl⟩
theorem MpAt.made (w : World) : MpAt (w.alloc (.map #[] 0)) w.heap.size [] := ⟨_, World.ownsMap_made w Try.prog 3 Rv, fun k => rfl, fun k x h => by simp [lkL] at h, rfl⟩
theorem MpAt.lt {w : World} {g : Nat} {l : List Lv} (h : MpAt w g l) : g < w.heap.size := by obtain ⟨D, h, -⟩ := h; exact h.lt
theorem MpAt.heap {w w' : World} {g : Nat} {l : List Lv} (h : MpAt w g l) (hb : w'.heap[g]? = w.heap[g]?) : MpAt w' g l := by
  obtain ⟨D, ⟨es, c, h1, h2⟩, r⟩ := h; exact ⟨D, ⟨es, c, hb.trans h1, h2⟩, r⟩
theorem MpAt.mods {w w' : World} {g : Nat} {l : List Lv} {S : Nat → Prop} (h : MpAt w g l) (hm : Mods S w w') (hn : ¬ S g) : MpAt w' g l := h.heap (hm.block g h.lt hn)
theorem zLv_zero (w : World) : (zeroValue 104).run Try.prog w = .ok zLv.agg w := by kernel_rfl
def lkV (l : List Lv) (k : Int) : Lv := (lkL l k).getD zLv
theorem wf_i64 {k : Int} (h1 : -9223372036854775808 ≤ k) (h2 : k ≤ 9223372036854775807) : (Lit.int .i64 k).wf = true := by
  have e1 : IntKind.i64.min = -9223372036854775808 := by rfl
  have e2 : IntKind.i64.max = 9223372036854775807 := by rfl
  simp [Lit.wf, IntKind.wrap]
  omega
theorem MpAt.look {w : World} {g : Nat} {l : List Lv} (h : MpAt w g l) (k : Int) (hk : (Lit.int .i64 k).wf = true) : (Instr.lookup 135 (.map (some g)) (.int .i64 k) true).run Try.prog w = .ok (.tuple #[(lkV l k).agg, .bool (lkL l k).isSome]) w := by
  obtain ⟨D, h, h1, h2, -⟩ := h
  obtain ⟨v, ps, hrun, hv⟩ := h.look_ok law3i Try.underlying135 (zLv_zero w) (zd := .held zLv.agg) (zp := []) rfl (keyOf_int_mk Try.underlying3 hk)
  have hv' : DataW.held v = D.atKey (il k) (.held zLv.agg) := congrArg Prod.fst (Option.some.inj hv)
  have hvv : v = (lkV l k).agg := by
    clear hrun hv
    unfold lkV
    cases hl : lkL l k with
    | none =>
      have : has D (il k) = false := by rw [h1, hl]; rfl
      rw [atKey_of_not_has this] at hv'
      injection hv' with hv'
    | some x =>
      rw [h2 k x hl] at hv'
      injection hv' with hv'
  subst hvv
  exact hrun.trans (congrArg (fun b => Result.ok (Value.tuple #[(lkV l k).agg, .bool b]) w) (h1 k))
theorem MpAt.look1 {w : World} {g : Nat} {l : List Lv} (h : MpAt w g l) (k : Int) (hk : (Lit.int .i64 k).wf = true) : (Instr.lookup 135 (.map (some g)) (.int .i64 k) false).run Try.prog w = .ok (lkV l k).agg w := by
  obtain ⟨D, h, h1, h2, -⟩ := h
  obtain ⟨v, ps, hrun, hv⟩ := h.lookup law3i Try.underlying135 (zLv_zero w) (zd := .held zLv.agg) (zp := []) rfl (keyOf_int_mk Try.underlying3 hk)
  have hv' : DataW.held v = D.atKey (il k) (.held zLv.agg) := congrArg Prod.fst (Option.some.inj hv)
  have hvv : v = (lkV l k).agg := by
    clear hrun hv
    unfold lkV
    cases hl : lkL l k with
    | none =>
      have : has D (il k) = false := by rw [h1, hl]; rfl
      rw [atKey_of_not_has this] at hv'
      injection hv' with hv'
    | some x =>
      rw [h2 k x hl] at hv'
      injection hv' with hv'
  subst hvv
  exact hrun
theorem MpAt.store {w : World} {g : Nat} {l : List Lv} (h : MpAt w g l) (x : Lv) (hk : (Lit.int .i64 x.price).wf = true) (hl : l.length < maxLen) :
    ∃ w', (Instr.mapUpdate 135 (.map (some g)) (.int .i64 x.price) x.agg).run Try.prog w = .ok () w' ∧ MpAt w' g (putL l x) ∧ w.mapTurned w' g := by
  obtain ⟨D, h, h1, h2, h3⟩ := h
  obtain ⟨w', hrun, hown, ht⟩ := h.store law3i Try.underlying135 hl (keyOf_int_mk Try.underlying3 hk) (val := x.agg) (d := .held x.agg) (ps := []) rfl
  refine ⟨w', hrun, ⟨D.put (il x.price) (.held x.agg), ?_, ?_, ?_, ?_⟩, ht⟩
  · have hT := h.tidy law3i
    have hsz : size (D.put (il x.price) (.held x.agg)) = (putL l x).length := by
      rw [size_put hT, h1, h3, putL_len]
    rw [← hsz]
    exact tight3 hown
  · intro k'
    by_cases e : k' = x.price
    · subst e; rw [has_put_same h.isMap (il_key _), lk_same]; rfl
    · rw [has_put_other (fun he => e (il_inj he)), lk_other _ _ _ e, h1]
  · intro k' x' hx z
    by_cases e : k' = x.price
    · subst e; rw [lk_same] at hx; have hx := Option.some.inj hx; subst hx; exact atKey_put_same h.isMap (il_key _) _ _
    · rw [lk_other _ _ _ e] at hx; rw [atKey_put_other (fun he => e (il_inj he))]; exact h2 _ _ hx z
  · rw [size_put (h.tidy law3i), h1, h3, putL_len]
theorem turned_mods {w w' : World} {g : Nat} (h : w.mapTurned w' g) : Mods (fun k => k = g) w w' := (Mods.refl _ w).grown h.grown (fun k hk => by injection hk with hk; exact .inl hk.symm)

/-- One order more on its level. -/
def lvUp (M : List Lv) (o : Mo) : List Lv := putL M ⟨o.price, (lkV M o.price).qty + o.left, (lkV M o.price).orders + 1⟩
def depthM (l : List Mo) : List Lv := l.foldl lvUp []
theorem lkV_mem {M : List Lv} {k : Int} : lkV M k = zLv ∨ lkV M k ∈ M := by
  unfold lkV
  cases h : lkL M k with
  | none => exact .inl rfl
  | some x => exact .inr (lk_price h).2
structure LvB (M : List Lv) (k : Nat) : Prop where
  b : ∀ x ∈ M, 0 ≤ x.qty ∧ x.qty ≤ k * 1099511627776 ∧ 0 ≤ x.orders ∧ x.orders ≤ k
  p : ∀ x ∈ M, 1 ≤ x.price ∧ x.price ≤ 1099511627776
  n : M.length ≤ k
  d : (M.map (·.price)).Nodup
theorem LvB.lk {M : List Lv} {k : Nat} (h : LvB M k) (p : Int) : 0 ≤ (lkV M p).qty ∧ (lkV M p).qty ≤ k * 1099511627776 ∧ 0 ≤ (lkV M p).orders ∧ (lkV M p).orders ≤ k := by
  rcases lkV_mem (M := M) (k := p) with he | he
  · rw [he]; simp only [zLv]; omega
  · exact h.b _ he
theorem LvB.up {M : List Lv} {k : Nat} (h : LvB M k) (o : Mo) (h1 : 1 ≤ o.left ∧ o.left ≤ 1099511627776) (h2 : 1 ≤ o.price ∧ o.price ≤ 1099511627776) : LvB (lvUp M o) (k + 1) := by
  have hl := h.lk o.price
  refine ⟨fun x hx => ?_, fun x hx => ?_, ?_, ?_⟩
  · rcases putL_mem hx with rfl | hx
    · simp only; omega
    · have := h.b x hx; omega
  · rcases putL_mem hx with rfl | hx
    · exact h2
    · exact h.p x hx
  · unfold lvUp; rw [putL_len]; have := h.n; split <;> omega
  · unfold lvUp
    rw [putL_prices]
    cases hf : lkL M o.price with
    | some x => simpa [hf] using h.d
    | none =>
      simp only [hf, Option.isSome_none, Bool.false_eq_true, if_false]
      refine List.nodup_append.2 ⟨h.d, by simp, fun a ha b hb => ?_⟩
      rintro rfl
      rw [List.mem_singleton] at hb
      exact lk_none hf (hb ▸ ha)

end Go.Proofs.Ytjhlaifflhjafaa
