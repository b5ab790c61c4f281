/- Structs in structs: arguments opened by a reader of all their cells. -/
import Derived.Test.YteggpdhkpmkldaaLaw
namespace Go.Proofs.Yteggpdhkpmkldaa
open Go.ChangeShapes Go.WideShapes Go.ChangeAt Go.RowKit Go.Deep

section
variable {H : Type} {enc : TypeId × Value → H} {P : Program}
theorem openStructsC {α : Type} (cs : α → List Value) (Q : α → Prop) (sz : Nat) {W : World} {r : Reach} {b0 : Nat} {t e : TypeId} {v : Value} {d : DataW H} {ps : List MemPlace} (ht : P.underlying t = some (.slice e))
    (hC : P.cellsOf e = sz) (hpos : 0 < sz) (hcs : ∀ x, (cs x).length = sz)
    (hread : ∀ (n : Nat) (c : List Value) (y : DataW H × List MemPlace), c.length = sz → DataW.trod enc P W 0 (fun _ => true) true n e c = some y → ∃ x, Q x ∧ cs x = c)
    (hval : Value.okWide P W r b0 t v) (hd : DataW.Trod enc P W 0 (fun _ => true) true t v d ps) :
    ∃ (A : Option Addr) (n c : Nat) (l : List α), v = .slice A n c ∧ Rd W A n sz (l.flatMap cs) ∧ l.length = n ∧ ∀ x ∈ l, Q x := by
  obtain ⟨a0, len, cap, rfl⟩ := okWide_slice ht hval
  obtain ⟨fuel, hf⟩ := hd
  rcases open_slice ht hf with ⟨hcs0, hx⟩ | ⟨a, len', cap', m, n, D, Pl, hcs0, hb, hl, hm, hmm, hx, hi⟩
  · simp [Value.cells] at hcs0
    obtain ⟨rfl, rfl, rfl⟩ := hcs0
    exact ⟨none, 0, 0, [], rfl, Rd.nil _ _, rfl, by simp⟩
  · simp [Value.cells] at hcs0
    obtain ⟨rfl, rfl, rfl⟩ := hcs0
    simp only [if_true] at hmm
    simp only [maxLen] at hm
    have each : ∀ i, i < len → ∃ x, Q x ∧ ∀ j, j < sz → W.cell? (a.add (i * sz + j)) = (cs x)[j]? := by
      intro i hil
      obtain ⟨cs', hc, ht'⟩ := hi i (by omega)
      rw [hC] at hc
      obtain ⟨_, hcl, hat⟩ := World.cells?_some hc
      obtain ⟨x, hQ, hx⟩ := hread _ cs' _ (by omega) ht'
      refine ⟨x, hQ, fun j hj => ?_⟩
      rw [hx, ← Go.Deep.add_add, hat j hj, List.getElem?_eq_getElem (by omega)]
    obtain ⟨l, hll, hlr⟩ := list_of len _ each
    have hfl := flat_len cs sz hcs l
    refine ⟨some a, len, cap, l, rfl, ⟨by rw [hfl, hll], by omega, fun hn => ?_⟩, hll, fun x hxl => ?_⟩
    · have h0 := (hlr 0 (l[0]'(by omega)) (List.getElem?_eq_getElem (by omega))).2 0 hpos
      rw [Nat.zero_mul, Nat.zero_add, List.getElem?_eq_getElem (by rw [hcs]; exact hpos)] at h0
      have ha : a = ⟨a.block, a.off, none⟩ := addr_plain (by simpa [Addr.add] using h0)
      refine ⟨a.block, a.off, congrArg some ha, World.block_lt_of_cell? W a (by simpa [Addr.add] using h0), fun j u hu => ?_⟩
      have hjl : j < len * sz := by
        rcases Nat.lt_or_ge j (len * sz) with h | h
        · exact h
        · rw [List.getElem?_eq_none (by rw [hfl, hll]; exact h)] at hu; cases hu
      have hq : j / sz < len := (Nat.div_lt_iff_lt_mul hpos).2 hjl
      have hr : j % sz < sz := Nat.mod_lt _ hpos
      have hsum : j / sz * sz + j % sz = j := by rw [Nat.mul_comm]; exact Nat.div_add_mod j sz
      have h1 := flat_at cs sz hcs l (j / sz) (j % sz) (l[j / sz]'(by omega)) (List.getElem?_eq_getElem (by omega)) hr
      have h2 := (hlr (j / sz) (l[j / sz]'(by omega)) (List.getElem?_eq_getElem (by omega))).2 (j % sz) hr
      rw [hsum] at h1 h2
      rw [ha, Go.WideShapes.add_plain] at h2
      rw [h2, ← h1, hu]
    · obtain ⟨i, hi, rfl⟩ := List.mem_iff_getElem.1 hxl
      exact (hlr i _ (List.getElem?_eq_getElem hi)).1

theorem openAggC {α : Type} (cs : α → List Value) (Q : α → Prop) (sz : Nat) {W : World} {r : Reach} {b0 : Nat} {t : TypeId} {fs : Array Field} {v : Value} {d : DataW H} {ps : List MemPlace} (he : P.underlying t = some (.struct fs))
    (hC : P.cellsOf t = sz)
    (hread : ∀ (n : Nat) (c : List Value) (y : DataW H × List MemPlace), c.length = sz → DataW.trod enc P W 0 (fun _ => true) true n t c = some y → ∃ x, Q x ∧ cs x = c)
    (hval : Value.okWide P W r b0 t v) (hd : DataW.Trod enc P W 0 (fun _ => true) true t v d ps) :
    ∃ x : α, v = .agg (cs x).toArray ∧ Q x := by
  obtain ⟨cs0, rfl, hsz⟩ := okWide_struct he hval
  obtain ⟨fuel, hf⟩ := hd
  rw [hC] at hsz
  obtain ⟨x, hQ, hx⟩ := hread _ cs0.toList _ (by simpa using hsz) hf
  exact ⟨x, by rw [hx], hQ⟩
end

/-- Seen's op. -/
abbrev SOp := Int × ByteArray × ByteArray × Int × Int × Bool
def sopCells (x : SOp) : List Value := [.int .i64 x.1, .string x.2.1, .string x.2.2.1, .int .i64 x.2.2.2.1, .int .i64 x.2.2.2.2.1, .bool x.2.2.2.2.2]
theorem cellsOf3 : Try.prog.cellsOf 3 = 1 := by kernel_rfl
theorem cellsOf4 : Try.prog.cellsOf 4 = 1 := by kernel_rfl
theorem cellsOf9 : Try.prog.cellsOf 9 = 1 := by kernel_rfl
theorem cellsOf34 : Try.prog.cellsOf 34 = 4 := by kernel_rfl
theorem fld {H : Type} {enc : TypeId × Value → H} {P : Program} {W : World} {n : Nat} {fs : Array Field} {ys : List (DataW H × List MemPlace)} {cs : List Value} (hl : ys.length = fs.size)
    (hff : ∀ (i : Nat) (f : Field), fs[i]? = some f → DataW.trod enc P W 0 (fun _ => true) true n f.type ((cs.drop f.offset).take (P.cellsOf f.type)) = ys[i]?)
    (i : Nat) (t : TypeId) (off k : Nat) (f : Field) (hf : fs[i]? = some f) (h1 : f.type = t) (h2 : f.offset = off) (hk : P.cellsOf t = k) :
    ∃ y, DataW.trod enc P W 0 (fun _ => true) true n t ((cs.drop off).take k) = some y := by
  subst h1 h2 hk
  have hi : i < ys.length := by have := (Array.getElem?_eq_some_iff.1 hf).1; omega
  exact ⟨ys[i], (hff i f hf).trans (List.getElem?_eq_getElem hi)⟩
theorem sopRead {H : Type} {enc : TypeId × Value → H} (W : World) (n : Nat) (c : List Value) (y : DataW H × List MemPlace) (hl : c.length = 6) (h : DataW.trod enc Try.prog W 0 (fun _ => true) true n 36 c = some y) : ∃ x : SOp, True ∧ sopCells x = c := by
  match c, hl with
  | [c0, c1, c2, c3, c4, c5], _ =>
  obtain ⟨ys, n', -, -, -, hyl, hff⟩ := DataW.trod_struct Try.underlying36 h
  obtain ⟨_, h0⟩ := fld hyl hff 0 3 0 1 _ rfl rfl rfl cellsOf3
  obtain ⟨_, h1⟩ := fld hyl hff 1 9 1 1 _ rfl rfl rfl cellsOf9
  obtain ⟨_, h2⟩ := fld hyl hff 2 34 2 4 _ rfl rfl rfl cellsOf34
  simp only [List.drop_zero, List.drop_succ_cons, List.take_succ_cons, List.take_zero] at h0 h1 h2
  obtain ⟨zs, n2, -, -, -, hzl, hgg⟩ := DataW.trod_struct Try.underlying34 h2
  obtain ⟨_, g0⟩ := fld hzl hgg 0 9 0 1 _ rfl rfl rfl cellsOf9
  obtain ⟨_, g1⟩ := fld hzl hgg 1 3 1 1 _ rfl rfl rfl cellsOf3
  obtain ⟨_, g2⟩ := fld hzl hgg 2 3 2 1 _ rfl rfl rfl cellsOf3
  obtain ⟨_, g3⟩ := fld hzl hgg 3 4 3 1 _ rfl rfl rfl cellsOf4
  simp only [List.drop_zero, List.drop_succ_cons, List.take_succ_cons, List.take_zero] at g0 g1 g2 g3
  obtain ⟨a0, e0, _⟩ := DataW.trod_int Try.underlying3 h0
  obtain ⟨a1, e1, _⟩ := DataW.trod_string Try.underlying9 h1
  obtain ⟨a2, e2, _⟩ := DataW.trod_string Try.underlying9 g0
  obtain ⟨a3, e3, _⟩ := DataW.trod_int Try.underlying3 g1
  obtain ⟨a4, e4, _⟩ := DataW.trod_int Try.underlying3 g2
  obtain ⟨a5, e5, _⟩ := DataW.trod_bool Try.underlying4 g3
  simp only [List.cons.injEq, and_true] at e0 e1 e2 e3 e4 e5
  exact ⟨(a0, a1, a2, a3, a4, a5), trivial, by simp [sopCells, e0, e1, e2, e3, e4, e5]⟩

end Go.Proofs.Yteggpdhkpmkldaa
