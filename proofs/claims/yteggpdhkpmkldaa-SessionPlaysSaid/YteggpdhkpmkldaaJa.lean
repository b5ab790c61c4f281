import Derived.Test.YteggpdhkpmkldaaVa
import Derived.Maps.OwnSet
import Derived.StringKeys
namespace Go.Proofs.Yteggpdhkpmkldaa
open Go.RowKit Go.Maps

/-! What was seen: a map as a list. -/
structure Ex where
  od : ByteArray
  q : Int
  p : Int
  bu : Bool
def Ex.cells (x : Ex) : List Value := [.string x.od, .int .i64 x.q, .int .i64 x.p, .bool x.bu]
def Ex.agg (x : Ex) : Value := .agg #[.string x.od, .int .i64 x.q, .int .i64 x.p, .bool x.bu]
def zEx : Ex := ⟨⟨#[]⟩, 0, 0, false⟩
abbrev Sl := List (ByteArray × Ex)
def look : Sl → ByteArray → Option Ex
  | [], _ => none
  | (k, x) :: r, key => if k = key then some x else look r key
def put : Sl → ByteArray → Ex → Sl
  | [], key, x => [(key, x)]
  | (k, y) :: r, key, x => if k = key then (k, x) :: r else (k, y) :: put r key x
theorem look_put_same (l : Sl) (k : ByteArray) (x : Ex) : look (put l k x) k = some x := by
  induction l with
  | nil => simp [put, look]
  | cons a r ih =>
    obtain ⟨j, y⟩ := a
    unfold put
    split
    · rename_i h; simp [look, h]
    · rename_i h; simp [look, h, ih]
theorem look_put_other (l : Sl) (k k' : ByteArray) (x : Ex) (h : k' ≠ k) : look (put l k x) k' = look l k' := by
  induction l with
  | nil => simp [put, look, Ne.symm h]
  | cons a r ih =>
    obtain ⟨j, y⟩ := a
    unfold put
    split
    · rename_i hj; subst hj; simp [look, Ne.symm h]
    · simp only [look]; rw [ih]
theorem len_put (l : Sl) (k : ByteArray) (x : Ex) : (put l k x).length = if (look l k).isSome then l.length else l.length + 1 := by
  induction l with
  | nil => simp [put, look]
  | cons a r ih =>
    obtain ⟨j, y⟩ := a
    unfold put look
    split
    · simp
    · simp only [List.length_cons, ih]; split <;> rfl

def Rv (v : Value) : Option (DataW Value × List MemPlace) := some (.held v, [])
def sl (k : ByteArray) : Lit := .string k.data.toList
theorem sl_inj {a b : ByteArray} (h : sl a = sl b) : a = b := by
  unfold sl at h
  injection h with h
  have : a.data = b.data := Array.toList_inj.1 h
  cases a; cases b; simp_all
theorem sl_key (k : ByteArray) : WideAt.IsKeyLit (sl k) := by trivial
/-- Block g is the map of l. -/
structure MpAt (w : World) (g : Nat) (l : Sl) : Prop where
  own : ∃ D : DataW Value, w.ownsMap Try.prog 9 Rv g l.length D ∧ (∀ k, has D (sl k) = (look l k).isSome) ∧ (∀ k x, look l k = some x → ∀ z, D.atKey (sl k) z = .held x.agg) ∧ size D = l.length
theorem law9s : Keyed Try.prog 9 := string_keyed Try.underlying9
theorem tight {w : World} {g n : Nat} {D : DataW Value} (h : w.ownsMap Try.prog 9 Rv g n D) : w.ownsMap Try.prog 9 Rv g (size D) D := by
  obtain ⟨es, clock, hb, F, hs, rfl⟩ := h
  exact ⟨es, clock, hb, F, by simp [size, length_sorted], rfl⟩
theorem MpAt.made (w : World) : MpAt (w.alloc (.map #[] 0)) w.heap.size [] := ⟨_, World.ownsMap_made w Try.prog 9 Rv, fun k => rfl, fun k x h => by simp [look] at h, rfl⟩
theorem MpAt.lt {w : World} {g : Nat} {l : Sl} (h : MpAt w g l) : g < w.heap.size := by obtain ⟨D, h, -⟩ := h; exact h.lt
theorem MpAt.grown {w w' : World} {g : Nat} {l : Sl} {row : Option Nat} (h : MpAt w g l) (hg : w.grownBy w' row) (hne : some g ≠ row) : MpAt w' g l := by
  obtain ⟨D, h, r⟩ := h; exact ⟨D, h.kept hg hne, r⟩
theorem MpAt.heap {w w' : World} {g : Nat} {l : Sl} (h : MpAt w g l) (hb : w'.heap[g]? = w.heap[g]?) : MpAt w' g l := by
  obtain ⟨D, ⟨es, c, h1, h2⟩, r⟩ := h; exact ⟨D, ⟨es, c, hb.trans h1, h2⟩, r⟩
theorem MpAt.mods {w w' : World} {g : Nat} {l : Sl} {S : Nat → Prop} (h : MpAt w g l) (hm : Mods S w w') (hn : ¬ S g) : MpAt w' g l := h.heap (hm.block g h.lt hn)
theorem MpAt.below {w w' : World} {g B : Nat} {l : Sl} (h : MpAt w g l) (hb : Below B w w') (hg : g < B) : MpAt w' g l := h.heap (hb.block g hg)
theorem MpAt.alloc {w : World} {g : Nat} {l : Sl} (h : MpAt w g l) (o : Obj) : MpAt (w.alloc o) g l := h.grown (World.grownBy_alloc w o none) (by simp)
theorem MpAt.drewN {w : World} {g : Nat} {l : Sl} (h : MpAt w g l) (n : Nat) : MpAt (w.drewN n) g l := h.heap rfl
theorem MpAt.set {w : World} {g : Nat} {l : Sl} (h : MpAt w g l) {a : Addr} (ha : g ≠ a.block) (u : Value) : MpAt (w.setCell a u) g l := by
  obtain ⟨D, h, r⟩ := h; exact ⟨D, h.setCell ha u, r⟩

theorem zEx_zero (w : World) : (zeroValue 34).run Try.prog w = .ok zEx.agg w := by kernel_rfl
def lookV (l : Sl) (k : ByteArray) : Ex := (look l k).getD zEx
theorem MpAt.look {w : World} {g : Nat} {l : Sl} (h : MpAt w g l) (k : ByteArray) (hk : k.size ≤ maxLen) : (Instr.lookup 48 (.map (some g)) (.string k) true).run Try.prog w = .ok (.tuple #[(lookV l k).agg, .bool (Yteggpdhkpmkldaa.look l k).isSome]) w := by
  obtain ⟨D, h, h1, h2, -⟩ := h
  obtain ⟨v, ps, hrun, hv⟩ := h.look_ok law9s Try.underlying48 (zEx_zero w) (zd := .held zEx.agg) (zp := []) rfl (Go.WideMaps.keyOf_string_mk Try.underlying9 hk)
  have hv' : DataW.held v = D.atKey (sl k) (.held zEx.agg) := congrArg Prod.fst (Option.some.inj hv)
  have hvv : v = (lookV l k).agg := by
    clear hrun hv
    unfold lookV
    cases hl : Yteggpdhkpmkldaa.look l k with
    | none =>
      have : has D (sl k) = false := by rw [h1, hl]; rfl
      rw [atKey_of_not_has this] at hv'
      injection hv' with hv'
    | some x =>
      rw [h2 k x hl] at hv'
      injection hv' with hv'
  subst hvv
  exact hrun.trans (congrArg (fun b => Result.ok (Value.tuple #[(lookV l k).agg, .bool b]) w) (h1 k))
theorem MpAt.len {w : World} {g : Nat} {l : Sl} (h : MpAt w g l) (ty : TypeId) : (Builtin.len_ #[48] ty #[.map (some g)]).run Try.prog w = .ok (.int .i64 l.length) w := by
  obtain ⟨D, h, -, -, h3⟩ := h
  exact (h.len Try.underlying48 ty).trans (congrArg (fun n : Nat => Result.ok (Value.int .i64 (n : Int)) w) h3)
theorem MpAt.store {w : World} {g : Nat} {l : Sl} (h : MpAt w g l) (k : ByteArray) (x : Ex) (hk : k.size ≤ maxLen) (hl : l.length < maxLen) :
    ∃ w', (Instr.mapUpdate 48 (.map (some g)) (.string k) x.agg).run Try.prog w = .ok () w' ∧ MpAt w' g (put l k x) ∧ w.mapTurned w' g := by
  obtain ⟨D, h, h1, h2, h3⟩ := h
  obtain ⟨w', hrun, hown, ht⟩ := h.store law9s Try.underlying48 hl (Go.WideMaps.keyOf_string_mk Try.underlying9 hk) (val := x.agg) (d := .held x.agg) (ps := []) rfl
  refine ⟨w', hrun, ⟨D.put (sl k) (.held x.agg), ?_, ?_, ?_, ?_⟩, ht⟩
  · have hT := h.tidy law9s
    have hsz : size (D.put (sl k) (.held x.agg)) = (put l k x).length := by
      rw [size_put hT, h1, h3, len_put]
    rw [← hsz]
    exact tight hown
  · intro k'
    by_cases e : k' = k
    · subst e; rw [has_put_same h.isMap (sl_key _), look_put_same]; rfl
    · rw [has_put_other (fun he => e (sl_inj he)), look_put_other _ _ _ _ e, h1]
  · intro k' x' hx z
    by_cases e : k' = k
    · subst e; rw [look_put_same] at hx; have hx := Option.some.inj hx; subst hx; exact atKey_put_same h.isMap (sl_key _) _ _
    · rw [look_put_other _ _ _ _ e] at hx; rw [atKey_put_other (fun he => e (sl_inj he))]; exact h2 _ _ hx z
  · rw [size_put (h.tidy law9s), h1, h3, len_put]

end Go.Proofs.Yteggpdhkpmkldaa
