import Derived.Test.YtjhlaifflhjafaaNt
import Derived.Maps.OwnSet
import Derived.StringKeys
namespace Go.Proofs.Ytjhlaifflhjafaa
open Go.RowKit Go.Maps

/-! What was seen: a map as a list. -/
structure Lo where
  kd : Int
  id : ByteArray
  sd : Int
  qt : Int
  pr : Int
def Lo.agg (x : Lo) : Value := .agg #[.int .i64 x.kd, .string x.id, .int .i64 x.sd, .int .i64 x.qt, .int .i64 x.pr]
def zLo : Lo := ⟨0, ⟨#[]⟩, 0, 0, 0⟩
abbrev SlO := List (ByteArray × Lo)
def lookO : SlO → ByteArray → Option Lo
  | [], _ => none
  | (k, x) :: r, key => if k = key then some x else lookO r key
def putO : SlO → ByteArray → Lo → SlO
  | [], key, x => [(key, x)]
  | (k, y) :: r, key, x => if k = key then (k, x) :: r else (k, y) :: putO r key x
theorem lookO_put_same (l : SlO) (k : ByteArray) (x : Lo) : lookO (putO l k x) k = some x := by
  induction l with
  | nil => simp [putO, lookO]
  | cons a r ih =>
    obtain ⟨j, y⟩ := a
    unfold putO
    split
    · rename_i h; simp [lookO, h]
    · rename_i h; simp [lookO, h, ih]
theorem lookO_put_other (l : SlO) (k k' : ByteArray) (x : Lo) (h : k' ≠ k) : lookO (putO l k x) k' = lookO l k' := by
  induction l with
  | nil => simp [putO, lookO, Ne.symm h]
  | cons a r ih =>
    obtain ⟨j, y⟩ := a
    unfold putO
    split
    · rename_i hj; subst hj; simp [lookO, Ne.symm h]
    · simp only [lookO]; rw [ih]
theorem lenO_put (l : SlO) (k : ByteArray) (x : Lo) : (putO l k x).length = if (lookO l k).isSome then l.length else l.length + 1 := by
  induction l with
  | nil => simp [putO, lookO]
  | cons a r ih =>
    obtain ⟨j, y⟩ := a
    unfold putO lookO
    split
    · simp
    · simp only [List.length_cons, ih]; split <;> rfl

def slO (k : ByteArray) : Lit := .string k.data.toList
theorem slO_inj {a b : ByteArray} (h : slO a = slO b) : a = b := by
  unfold slO at h
  injection h with h
  have : a.data = b.data := Array.toList_inj.1 h
  cases a; cases b; simp_all
theorem slO_key (k : ByteArray) : WideAt.IsKeyLit (slO k) := by trivial
/-- Block g is the map of l. -/
structure MqAt (w : World) (g : Nat) (l : SlO) : Prop where
  own : ∃ D : DataW Value, w.ownsMap Try.prog 9 Rv g l.length D ∧ (∀ k, has D (slO k) = (lookO l k).isSome) ∧ (∀ k x, lookO l k = some x → ∀ z, D.atKey (slO k) z = .held x.agg) ∧ size D = l.length
theorem law9o : Keyed Try.prog 9 := string_keyed Try.underlying9
theorem tight9 {w : World} {g n : Nat} {D : DataW Value} (h : w.ownsMap Try.prog 9 Rv g n D) : w.ownsMap Try.prog 9 Rv g (size D) D := by
  obtain ⟨es, clock, hb, F, hs, rfl⟩ := h
  exact ⟨es, clock, hb, F, by simp [size, length_sorted], rfl⟩
theorem MqAt.made (w : World) : MqAt (w.alloc (.map #[] 0)) w.heap.size [] := ⟨_, World.ownsMap_made w Try.prog 9 Rv, fun k => rfl, fun k x h => by simp [lookO] at h, rfl⟩
theorem MqAt.lt {w : World} {g : Nat} {l : SlO} (h : MqAt w g l) : g < w.heap.size := by obtain ⟨D, h, -⟩ := h; exact h.lt
theorem MqAt.grown {w w' : World} {g : Nat} {l : SlO} {row : Option Nat} (h : MqAt w g l) (hg : w.grownBy w' row) (hne : some g ≠ row) : MqAt w' g l := by
  obtain ⟨D, h, r⟩ := h; exact ⟨D, h.kept hg hne, r⟩
theorem MqAt.heap {w w' : World} {g : Nat} {l : SlO} (h : MqAt w g l) (hb : w'.heap[g]? = w.heap[g]?) : MqAt w' g l := by
  obtain ⟨D, ⟨es, c, h1, h2⟩, r⟩ := h; exact ⟨D, ⟨es, c, hb.trans h1, h2⟩, r⟩
theorem MqAt.mods {w w' : World} {g : Nat} {l : SlO} {S : Nat → Prop} (h : MqAt w g l) (hm : Mods S w w') (hn : ¬ S g) : MqAt w' g l := h.heap (hm.block g h.lt hn)
theorem MqAt.below {w w' : World} {g B : Nat} {l : SlO} (h : MqAt w g l) (hb : Below B w w') (hg : g < B) : MqAt w' g l := h.heap (hb.block g hg)
theorem MqAt.alloc {w : World} {g : Nat} {l : SlO} (h : MqAt w g l) (o : Obj) : MqAt (w.alloc o) g l := h.grown (World.grownBy_alloc w o none) (by simp)
theorem MqAt.drewN {w : World} {g : Nat} {l : SlO} (h : MqAt w g l) (n : Nat) : MqAt (w.drewN n) g l := h.heap rfl
theorem MqAt.set {w : World} {g : Nat} {l : SlO} (h : MqAt w g l) {a : Addr} (ha : g ≠ a.block) (u : Value) : MqAt (w.setCell a u) g l := by
  obtain ⟨D, h, r⟩ := h; exact ⟨D, h.setCell ha u, r⟩

theorem zLo_zero (w : World) : (zeroValue 90).run Try.prog w = .ok zLo.agg w := by kernel_rfl
def lookVO (l : SlO) (k : ByteArray) : Lo := (lookO l k).getD zLo
theorem MqAt.look {w : World} {g : Nat} {l : SlO} (h : MqAt w g l) (k : ByteArray) (hk : k.size ≤ maxLen) : (Instr.lookup 105 (.map (some g)) (.string k) true).run Try.prog w = .ok (.tuple #[(lookVO l k).agg, .bool (Ytjhlaifflhjafaa.lookO l k).isSome]) w := by
  obtain ⟨D, h, h1, h2, -⟩ := h
  obtain ⟨v, ps, hrun, hv⟩ := h.look_ok law9o Try.underlying105 (zLo_zero w) (zd := .held zLo.agg) (zp := []) rfl (Go.WideMaps.keyOf_string_mk Try.underlying9 hk)
  have hv' : DataW.held v = D.atKey (slO k) (.held zLo.agg) := congrArg Prod.fst (Option.some.inj hv)
  have hvv : v = (lookVO l k).agg := by
    clear hrun hv
    unfold lookVO
    cases hl : Ytjhlaifflhjafaa.lookO l k with
    | none =>
      have : has D (slO k) = false := by rw [h1, hl]; rfl
      rw [atKey_of_not_has this] at hv'
      injection hv' with hv'
    | some x =>
      rw [h2 k x hl] at hv'
      injection hv' with hv'
  subst hvv
  exact hrun.trans (congrArg (fun b => Result.ok (Value.tuple #[(lookVO l k).agg, .bool b]) w) (h1 k))
theorem MqAt.look1 {w : World} {g : Nat} {l : SlO} (h : MqAt w g l) (k : ByteArray) (hk : k.size ≤ maxLen) : (Instr.lookup 105 (.map (some g)) (.string k) false).run Try.prog w = .ok (lookVO l k).agg w := by
  obtain ⟨D, h, h1, h2, -⟩ := h
  obtain ⟨v, ps, hrun, hv⟩ := h.lookup law9o Try.underlying105 (zLo_zero w) (zd := .held zLo.agg) (zp := []) rfl (Go.WideMaps.keyOf_string_mk Try.underlying9 hk)
  have hv' : DataW.held v = D.atKey (slO k) (.held zLo.agg) := congrArg Prod.fst (Option.some.inj hv)
  have hvv : v = (lookVO l k).agg := by
    clear hrun hv
    unfold lookVO
    cases hl : Ytjhlaifflhjafaa.lookO l k with
    | none =>
      have : has D (slO k) = false := by rw [h1, hl]; rfl
      rw [atKey_of_not_has this] at hv'
      injection hv' with hv'
    | some x =>
      rw [h2 k x hl] at hv'
      injection hv' with hv'
  subst hvv
  exact hrun
theorem MqAt.len {w : World} {g : Nat} {l : SlO} (h : MqAt w g l) (ty : TypeId) : (Builtin.len_ #[105] ty #[.map (some g)]).run Try.prog w = .ok (.int .i64 l.length) w := by
  obtain ⟨D, h, -, -, h3⟩ := h
  exact (h.len Try.underlying105 ty).trans (congrArg (fun n : Nat => Result.ok (Value.int .i64 (n : Int)) w) h3)
theorem MqAt.store {w : World} {g : Nat} {l : SlO} (h : MqAt w g l) (k : ByteArray) (x : Lo) (hk : k.size ≤ maxLen) (hl : l.length < maxLen) :
    ∃ w', (Instr.mapUpdate 105 (.map (some g)) (.string k) x.agg).run Try.prog w = .ok () w' ∧ MqAt w' g (putO l k x) ∧ w.mapTurned w' g := by
  obtain ⟨D, h, h1, h2, h3⟩ := h
  obtain ⟨w', hrun, hown, ht⟩ := h.store law9o Try.underlying105 hl (Go.WideMaps.keyOf_string_mk Try.underlying9 hk) (val := x.agg) (d := .held x.agg) (ps := []) rfl
  refine ⟨w', hrun, ⟨D.put (slO k) (.held x.agg), ?_, ?_, ?_, ?_⟩, ht⟩
  · have hT := h.tidy law9o
    have hsz : size (D.put (slO k) (.held x.agg)) = (putO l k x).length := by
      rw [size_put hT, h1, h3, lenO_put]
    rw [← hsz]
    exact tight9 hown
  · intro k'
    by_cases e : k' = k
    · subst e; rw [has_put_same h.isMap (slO_key _), lookO_put_same]; rfl
    · rw [has_put_other (fun he => e (slO_inj he)), lookO_put_other _ _ _ _ e, h1]
  · intro k' x' hx z
    by_cases e : k' = k
    · subst e; rw [lookO_put_same] at hx; have hx := Option.some.inj hx; subst hx; exact atKey_put_same h.isMap (slO_key _) _ _
    · rw [lookO_put_other _ _ _ _ e] at hx; rw [atKey_put_other (fun he => e (slO_inj he))]; exact h2 _ _ hx z
  · rw [size_put (h.tidy law9o), h1, h3, lenO_put]

end Go.Proofs.Ytjhlaifflhjafaa
