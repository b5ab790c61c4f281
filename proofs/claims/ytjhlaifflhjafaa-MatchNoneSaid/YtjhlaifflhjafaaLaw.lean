import Derived.Test.YtjhlaifflhjafaaRows
import Derived.ProofKit
import Derived.SizedLaws
import Derived.Below
import Derived.Deep.Slices
import Derived.Deep.Fields
import Derived.SliceStrings
import Derived.OpenShut
import Derived.Test.YtjhlaifflhjafaaBa
namespace Go.Proofs.Ytjhlaifflhjafaa
open Go.ChangeShapes Go.WideShapes Go.ChangeAt Go.RowKit Go.Deep

theorem Try.own : ownKnob Try.prog.godebug = none := by kernel_rfl
theorem Try.laidOut : laidOutB Try.prog = true := by kernel_rfl

section
variable {H : Type} {enc : TypeId × Value → H} {P : Program}
theorem trodAll_below (hl : laidOutB P = true) {W W' : World} (hb : Below W.heap.size W W') (sp : Nat → Bool) : ∀ (ts : List TypeId) (vs : List Value) (ds : List (DataW H)) (ps : List MemPlace),
    (∀ t ∈ ts, P.readableRec t = true ∧ t < P.types.size) → DataW.TrodAll enc P W 0 (fun _ => true) true ts vs ds ps → (∀ x ∈ ps, x.block < W.heap.size ∧ sp x.block = true) →
    DataW.TrodAll enc P W' 0 sp true ts vs ds ps
  | [], vs, ds, ps, _, h, _ => by obtain ⟨rfl, rfl, rfl⟩ := trodAll_nil h; exact trodAll_mk0
  | t :: ts, vs, ds, ps, hr, h, hp => by
    obtain ⟨v, vs', d, ds', p, q, rfl, rfl, rfl, hd, hrest⟩ := trodAll_cons h
    obtain ⟨r1, r2⟩ := hr t (List.mem_cons_self ..)
    have h1 : DataW.Trod enc P W' 0 sp true t v d p := WideElems.Trod_stays hl r1 r2 hd (fun x hx => hb.same (hp x (List.mem_append_left _ hx)).1) (fun x hx => by simpa using (hp x (List.mem_append_left _ hx)).2)
    exact ⟨p, q, h1, trodAll_below hl hb sp ts vs' ds' q (fun t ht => hr t (List.mem_cons_of_mem _ ht)) hrest (fun x hx => hp x (List.mem_append_right _ hx)), rfl⟩

theorem post_of_below {f : Func} {s : ChangeSpec} {apart fresh handsOn again : Bool} {W W' : World} {args : Array Value} {v : Value} {ds gs : List (DataW H)} {before pa pv : List MemPlace}
    (hW : DataW.Whole enc P f.params.toList s.vars apart W args.toList ds gs before)
    (hres : ∀ (b : Nat) (sp : Nat → Bool) (hd : Bool), DataW.TrodAll enc P W' b sp hd f.resultTypes.toList (v.resultList f.resultTypes.size) (s.fn H (ds ++ gs)).results [])
    (hargs : ∀ sp : Nat → Bool, (∀ p ∈ before, sp p.block = true) → DataW.TrodAll enc P W' 0 sp true f.params.toList args.toList (s.fn H (ds ++ gs)).args pa)
    (hvars : ∀ sp : Nat → Bool, (∀ p ∈ before, sp p.block = true) → DataW.TrodVars enc P W' sp s.vars (s.fn H (ds ++ gs)).vars pv)
    (hps : before = pa ++ pv) (hb : Below W.heap.size W W')
    (hok : ∀ (j : Nat) (t : TypeId) (r : Value), f.resultTypes[j]? = some t → (v.resultList f.resultTypes.size)[j]? = some r → Value.okWide P W' .any 0 t r) :
    s.post enc P f apart fresh handsOn again W args v W' := by
  have hlt : ∀ p ∈ before, p.block < W.heap.size := fun p hp => hW.lt p hp
  have hold : ∀ p ∈ before, (fun b => decide (b < W.heap.size)) p.block = true := fun p hp => by simpa using hlt p hp
  refine ⟨ds, gs, before, [], pa, pv, hW, hres _ _ _, hargs _ hold, hvars _ hold, World.keptBut_mono (fun p hp => ⟨hp, ?_⟩) (hb.frame (· ∈ before)), fun _ => ?_⟩
  · rw [hps, List.mem_append] at hp
    exact Or.inr hp
  · obtain ⟨_, _, _, _, _, hz, hn⟩ := hW
    refine ⟨hok, _, _, ([] ++ pa) ++ pv, ⟨[] ++ pa, pv, trodAll_append (hargs _ (fun _ _ => rfl)) (hres _ _ _), hvars _ (fun _ _ => rfl), rfl, ?_, ?_⟩, ?_⟩
    · intro b off hp
      have hin : MemPlace.cell b off ∈ before := by rw [hps]; simpa using hp
      rw [hb.frozen (hlt _ hin)]
      exact hz b off hin
    · intro ha
      have := hn ha
      rw [hps] at this
      simpa using this
    · intro p hp _
      rw [hps]
      simpa using hp

/-! Arguments opened. -/
theorem addr_plain {w : World} {a : Addr} {v : Value} (h : w.cell? a = some v) : a = ⟨a.block, a.off, none⟩ := by
  obtain ⟨b, off, spot⟩ := a
  have := World.cell?_spot h
  simp only at this
  subst this
  rfl

theorem openInts {W : World} {r : Reach} {b0 : Nat} {t e : TypeId} {v : Value} {d : DataW H} {ps : List MemPlace} (ht : P.underlying t = some (.slice e)) (he : P.underlying e = some (.int .i64)) (hc : P.cellsOf e = 1)
    (hval : Value.okWide P W r b0 t v) (hd : DataW.Trod enc P W 0 (fun _ => true) true t v d ps) :
    ∃ (A : Option Addr) (n c : Nat) (zs : List Int), v = .slice A n c ∧ Rd W A n 1 (zs.map (Value.int .i64)) ∧ zs.length = n ∧ ∀ z ∈ zs, -9223372036854775808 ≤ z ∧ z ≤ 9223372036854775807 := by
  obtain ⟨a0, len, cap, rfl⟩ := okWide_slice ht hval
  obtain ⟨fuel, hf⟩ := hd
  rcases open_ints ht he hc hf with ⟨hcs, hx⟩ | ⟨a, len', cap', zs, hcs, _, hl, hm, hz, hx, hcell, hwz⟩
  · simp [Value.cells] at hcs
    obtain ⟨rfl, rfl, rfl⟩ := hcs
    exact ⟨none, 0, 0, [], rfl, Rd.nil _ _, rfl, by simp⟩
  · simp [Value.cells] at hcs
    obtain ⟨rfl, rfl, rfl⟩ := hcs
    simp only [if_true] at hz
    simp only [maxLen] at hm
    refine ⟨some a, len, cap, zs.take len, rfl, ⟨by simp; omega, by omega, fun hn => ?_⟩, by simp; omega, fun z hz => bounds_i64 (hwz z (List.mem_of_mem_take hz))⟩
    have h0 := hcell 0 (by omega)
    have ha : a = ⟨a.block, a.off, none⟩ := addr_plain (by simpa [Addr.add] using h0)
    refine ⟨a.block, a.off, congrArg some ha, World.block_lt_of_cell? W a (by simpa [Addr.add] using h0), fun j u hu => ?_⟩
    rw [List.getElem?_map] at hu
    have hj : j < len := by
      rcases Nat.lt_or_ge j len with h | h
      · exact h
      · rw [List.getElem?_eq_none (by simp; omega)] at hu; cases hu
    rw [List.getElem?_take_of_lt hj, List.getElem?_eq_getElem (by omega)] at hu
    simp only [Option.map_some, Option.some.injEq] at hu
    have := hcell j (by omega)
    rw [ha, Go.WideShapes.add_plain] at this
    rw [this, ← hu, List.getD_eq_getElem?_getD, List.getElem?_eq_getElem (by omega)]
    rfl

theorem openStrs {W : World} {r : Reach} {b0 : Nat} {t e : TypeId} {v : Value} {d : DataW H} {ps : List MemPlace} (ht : P.underlying t = some (.slice e)) (he : P.underlying e = some .string) (hc : P.cellsOf e = 1)
    (hval : Value.okWide P W r b0 t v) (hd : DataW.Trod enc P W 0 (fun _ => true) true t v d ps) :
    ∃ (A : Option Addr) (n c : Nat) (zs : List ByteArray), v = .slice A n c ∧ Rd W A n 1 (zs.map Value.string) ∧ zs.length = n ∧ ∀ z ∈ zs, z.size ≤ 9223372036854775807 := by
  obtain ⟨a0, len, cap, rfl⟩ := okWide_slice ht hval
  obtain ⟨fuel, hf⟩ := hd
  rcases open_strings ht he hc hf with ⟨hcs, hx⟩ | ⟨a, len', cap', zs, hcs, _, hl, hm, hz, hx, hcell, hwz⟩
  · simp [Value.cells] at hcs
    obtain ⟨rfl, rfl, rfl⟩ := hcs
    exact ⟨none, 0, 0, [], rfl, Rd.nil _ _, rfl, by simp⟩
  · simp [Value.cells] at hcs
    obtain ⟨rfl, rfl, rfl⟩ := hcs
    simp only [if_true] at hz
    simp only [maxLen] at hm
    refine ⟨some a, len, cap, zs.take len, rfl, ⟨by simp; omega, by omega, fun hn => ?_⟩, by simp; omega, fun z hz => by have := hwz z (List.mem_of_mem_take hz); simp only [maxLen] at this; omega⟩
    have h0 := hcell 0 (by omega)
    have ha : a = ⟨a.block, a.off, none⟩ := addr_plain (by simpa [Addr.add] using h0)
    refine ⟨a.block, a.off, congrArg some ha, World.block_lt_of_cell? W a (by simpa [Addr.add] using h0), fun j u hu => ?_⟩
    rw [List.getElem?_map] at hu
    have hj : j < len := by
      rcases Nat.lt_or_ge j len with h | h
      · exact h
      · rw [List.getElem?_eq_none (by simp; omega)] at hu; cases hu
    rw [List.getElem?_take_of_lt hj, List.getElem?_eq_getElem (by omega)] at hu
    simp only [Option.map_some, Option.some.injEq] at hu
    have := hcell j (by omega)
    rw [ha, Go.WideShapes.add_plain] at this
    rw [this, ← hu, List.getD_eq_getElem?_getD, List.getElem?_eq_getElem (by omega)]
    rfl

theorem list_of {α : Type} (n : Nat) (R : Nat → α → Prop) (h : ∀ i, i < n → ∃ x, R i x) : ∃ l : List α, l.length = n ∧ ∀ i x, l[i]? = some x → R i x := by
  induction n with
  | zero => exact ⟨[], rfl, fun i x h => by simp at h⟩
  | succ n ih =>
    obtain ⟨l, hl, hr⟩ := ih (fun i hi => h i (by omega))
    obtain ⟨x, hx⟩ := h n (by omega)
    refine ⟨l ++ [x], by simp [hl], fun i y hy => ?_⟩
    rcases Nat.lt_trichotomy i n with hi | hi | hi
    · rw [List.getElem?_append_left (by omega)] at hy; exact hr i y hy
    · subst hi
      rw [List.getElem?_append_right (by omega), hl, Nat.sub_self] at hy
      simp at hy
      subst hy
      exact hx
    · rw [List.getElem?_eq_none (by simp; omega)] at hy; cases hy

/-- A slice of structs: whatever each element's cells read as. -/
theorem openStructs {α : Type} (cs : α → List Value) (Q : α → Prop) {W : World} {r : Reach} {b0 : Nat} {t e : TypeId} {fs : Array Field} {v : Value} {d : DataW H} {ps : List MemPlace} (ht : P.underlying t = some (.slice e)) (he : P.underlying e = some (.struct fs))
    (hone : oneCellFields P fs = true) (hC : P.cellsOf e = fs.size) (hpos : 0 < fs.size) (hcs : ∀ x, (cs x).length = fs.size)
    (hread : ∀ (n : Nat) (vs : Nat → Value) (ys : List (DataW H × List MemPlace)), (∀ (j : Nat) (f : Field), fs[j]? = some f → ∃ y, ys[j]? = some y ∧ DataW.trod enc P W 0 (fun _ => true) true n f.type [vs j] = some y) → ∃ x, Q x ∧ ∀ j, j < fs.size → (cs x)[j]? = some (vs j))
    (hval : Value.okWide P W r b0 t v) (hd : DataW.Trod enc P W 0 (fun _ => true) true t v d ps) :
    ∃ (A : Option Addr) (n c : Nat) (l : List α), v = .slice A n c ∧ Rd W A n fs.size (l.flatMap cs) ∧ l.length = n ∧ ∀ x ∈ l, Q x := by
  obtain ⟨a0, len, cap, rfl⟩ := okWide_slice ht hval
  obtain ⟨fuel, hf⟩ := hd
  rcases open_slice ht hf with ⟨hcs0, hx⟩ | ⟨a, len', cap', m, n, D, Pl, hcs0, hb, hl, hm, hmm, hx, hi⟩
  · simp [Value.cells] at hcs0
    obtain ⟨rfl, rfl, rfl⟩ := hcs0
    exact ⟨none, 0, 0, [], rfl, Rd.nil _ _, rfl, by simp⟩
  · simp [Value.cells] at hcs0
    obtain ⟨rfl, rfl, rfl⟩ := hcs0
    simp only [if_true] at hmm
    simp only [maxLen] at hm
    have each : ∀ i, i < len → ∃ x, Q x ∧ ∀ j, j < fs.size → W.cell? (a.add (i * fs.size + j)) = (cs x)[j]? := by
      intro i hil
      obtain ⟨cs', hc, ht'⟩ := hi i (by omega)
      rw [hC] at hc
      obtain ⟨ys, n', hn', hy, hlen, hyl, hff⟩ := DataW.trod_struct he ht'
      obtain ⟨_, hcl, hat⟩ := World.cells?_some hc
      obtain ⟨x, hQ, hx⟩ := hread n' (fun j => cs'.getD j undef) ys (fun j f hj => by
        obtain ⟨ho, hk⟩ := hone_of hone j f hj
        have hjl : j < fs.size := (Array.getElem?_eq_some_iff.1 hj).1
        have h1 := hff j f hj
        rw [ho, hk] at h1
        have hone' : (cs'.drop j).take 1 = [cs'.getD j undef] := by
          rw [List.drop_eq_getElem_cons (by omega), List.getD_eq_getElem?_getD, List.getElem?_eq_getElem (by omega)]
          rfl
        rw [hone'] at h1
        exact ⟨ys[j]'(by omega), List.getElem?_eq_getElem (by omega), h1.trans (List.getElem?_eq_getElem (by omega))⟩)
      refine ⟨x, hQ, fun j hj => ?_⟩
      rw [hx j hj, ← Go.Deep.add_add, hat j hj, List.getD_eq_getElem?_getD, List.getElem?_eq_getElem (by omega)]
      rfl
    obtain ⟨l, hll, hlr⟩ := list_of len _ each
    have hfl := flat_len cs fs.size hcs l
    refine ⟨some a, len, cap, l, rfl, ⟨by rw [hfl, hll], by omega, fun hn => ?_⟩, hll, fun x hxl => ?_⟩
    · have h0 := (hlr 0 (l[0]'(by omega)) (List.getElem?_eq_getElem (by omega))).2 0 hpos
      rw [Nat.zero_mul, Nat.zero_add, List.getElem?_eq_getElem (by rw [hcs]; exact hpos)] at h0
      have ha : a = ⟨a.block, a.off, none⟩ := addr_plain (by simpa [Addr.add] using h0)
      refine ⟨a.block, a.off, congrArg some ha, World.block_lt_of_cell? W a (by simpa [Addr.add] using h0), fun j u hu => ?_⟩
      have hjl : j < len * fs.size := by
        rcases Nat.lt_or_ge j (len * fs.size) with h | h
        · exact h
        · rw [List.getElem?_eq_none (by rw [hfl, hll]; exact h)] at hu; cases hu
      have hq : j / fs.size < len := (Nat.div_lt_iff_lt_mul hpos).2 hjl
      have hr : j % fs.size < fs.size := Nat.mod_lt _ hpos
      have hsum : j / fs.size * fs.size + j % fs.size = j := by rw [Nat.mul_comm]; exact Nat.div_add_mod j fs.size
      have h1 := flat_at cs fs.size hcs l (j / fs.size) (j % fs.size) (l[j / fs.size]'(by omega)) (List.getElem?_eq_getElem (by omega)) hr
      have h2 := (hlr (j / fs.size) (l[j / fs.size]'(by omega)) (List.getElem?_eq_getElem (by omega))).2 (j % fs.size) hr
      rw [hsum] at h1 h2
      rw [ha, Go.WideShapes.add_plain] at h2
      rw [h2, ← h1, hu]
    · obtain ⟨i, hi, rfl⟩ := List.mem_iff_getElem.1 hxl
      exact (hlr i _ (List.getElem?_eq_getElem hi)).1

/-- A struct by value. -/
theorem openAgg {α : Type} (cs : α → List Value) (Q : α → Prop) {W : World} {r : Reach} {b0 : Nat} {t : TypeId} {fs : Array Field} {v : Value} {d : DataW H} {ps : List MemPlace} (he : P.underlying t = some (.struct fs))
    (hone : oneCellFields P fs = true) (hC : P.cellsOf t = fs.size) (hcs : ∀ x, (cs x).length = fs.size)
    (hread : ∀ (n : Nat) (vs : Nat → Value) (ys : List (DataW H × List MemPlace)), (∀ (j : Nat) (f : Field), fs[j]? = some f → ∃ y, ys[j]? = some y ∧ DataW.trod enc P W 0 (fun _ => true) true n f.type [vs j] = some y) → ∃ x, Q x ∧ ∀ j, j < fs.size → (cs x)[j]? = some (vs j))
    (hval : Value.okWide P W r b0 t v) (hd : DataW.Trod enc P W 0 (fun _ => true) true t v d ps) :
    ∃ x : α, v = .agg (cs x).toArray ∧ Q x := by
  obtain ⟨cs0, rfl, hsz⟩ := okWide_struct he hval
  obtain ⟨fuel, hf⟩ := hd
  obtain ⟨ys, n', hn', hy, hlen, hyl, hff⟩ := DataW.trod_struct he hf
  rw [hC] at hsz
  obtain ⟨x, hQ, hx⟩ := hread n' (fun j => cs0.toList.getD j undef) ys (fun j f hj => by
    obtain ⟨ho, hk⟩ := hone_of hone j f hj
    have hjl : j < fs.size := (Array.getElem?_eq_some_iff.1 hj).1
    have hjc : j < cs0.toList.length := by simp; omega
    have h1 := hff j f hj
    rw [ho, hk] at h1
    have hone' : (((Value.agg cs0).cells.toList).drop j).take 1 = [cs0.toList.getD j undef] := by
      show (cs0.toList.drop j).take 1 = _
      rw [List.drop_eq_getElem_cons hjc, List.getD_eq_getElem?_getD, List.getElem?_eq_getElem hjc]
      rfl
    rw [hone'] at h1
    exact ⟨ys[j]'(by omega), List.getElem?_eq_getElem (by omega), h1.trans (List.getElem?_eq_getElem (by omega))⟩)
  refine ⟨x, ?_, hQ⟩
  congr 1
  apply Array.ext'
  apply List.ext_getElem?
  intro j
  rcases Nat.lt_or_ge j fs.size with hj | hj
  · have hjc : j < cs0.toList.length := by simp; omega
    rw [hx j hj, List.getD_eq_getElem?_getD, List.getElem?_eq_getElem hjc]
    rfl
  · rw [List.getElem?_eq_none (by simp; omega), List.getElem?_eq_none (by simp [hcs]; omega)]

/-- A law's row out of its walk: whatever the arguments, true comes back, and nothing that was there has turned. -/
theorem law_post (hl : laidOutB P = true) {f : Func} {s : ChangeSpec} {tb : TypeId} (htb : P.underlying tb = some .bool) (hrt : f.resultTypes = #[tb]) (hvars : s.vars = [])
    (hr : ∀ t ∈ f.params.toList, P.readableRec t = true ∧ t < P.types.size) {apart fresh handsOn again : Bool} {W W' : World} {args : Array Value} {ds gs : List (DataW H)} {before : List MemPlace}
    (hW : DataW.Whole enc P f.params.toList s.vars apart W args.toList ds gs before)
    (hfn : gs = [] → (s.fn H (ds ++ gs)).results = [.lit (.bool true)] ∧ (s.fn H (ds ++ gs)).args = ds ∧ (s.fn H (ds ++ gs)).vars = [])
    (hb : Below W.heap.size W W') : s.post enc P f apart fresh handsOn again W args (.bool true) W' := by
  have hW' := hW
  obtain ⟨p, q, hA, hV, hpq, _, _⟩ := hW
  rw [hvars] at hV
  obtain ⟨rfl, rfl⟩ := trodVars_none hV
  obtain ⟨e1, e2, e3⟩ := hfn rfl
  rw [List.append_nil] at hpq
  subst hpq
  have hlt : ∀ x ∈ before, x.block < W.heap.size := fun x hx => hW'.lt x hx
  refine post_of_below (pa := before) (pv := []) hW' (fun b sp hd => ?_) (fun sp hsp => ?_) (fun sp _ => ?_) (by simp) hb ?_
  · rw [e1, hrt]
    exact trodAll_mk1 (shut_bool htb true)
  · rw [e2]
    exact trodAll_below hl hb sp _ _ _ _ hr hA (fun x hx => ⟨hlt x hx, hsp x hx⟩)
  · rw [e3, hvars]
    rfl
  · exact ok_one hrt rfl (okWide_bool_mk htb true)
end
end Go.Proofs.Ytjhlaifflhjafaa
