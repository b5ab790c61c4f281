import Derived.Test.YtjhlaifflhjafaaNw
namespace Go.Proofs.Ytjhlaifflhjafaa
open Go.RowKit

/-- The limits behind an op. -/
def limUp (l : SlO) (x : MOp) (e : Int) : SlO :=
  if e = 0 ∧ x.1 = 1 then putO l x.2.1 ⟨x.1, x.2.1, x.2.2.1, x.2.2.2.1, x.2.2.2.2⟩
  else if e = 0 ∧ x.1 = 3 then putO l x.2.1 ⟨x.1, x.2.1, (lookVO l x.2.1).sd, x.2.2.2.1, x.2.2.2.2⟩
  else l
def cameM (S : Sd) (x : MOp) (e : Int) : Int := if e = 0 ∧ x.1 = 1 then x.2.2.2.1 else if e = 0 ∧ x.1 = 3 then x.2.2.2.1 - (leftM S x.2.1).1 else 0
/-- What MatchKeeps asks of an op's end. -/
structure KpR (S : Sd) (l : SlO) (x : MOp) (D : (List Tr × Int × Int) × Sd) : Prop where
  kp : KpI D.2 (limUp l x D.1.2.2)
  er : D.1.2.2 ≠ 0 → D.1.1 = [] ∧ D.1.2.1 = 0 ∧ D.2 = S
  sm : sumS D.2 = sumS S + cameM S x D.1.2.2 - 2 * qtyS D.1.1 - D.1.2.1
  tr : ∀ t ∈ D.1.1, TrK (limUp l x D.1.2.2) x.2.1 t
  q : 0 ≤ qtyS D.1.1 ∧ qtyS D.1.1 ≤ 1099511627776
  ln : D.1.1.length ≤ 1000
theorem KpR.none {S : Sd} {l : SlO} (h : KpI S l) (x : MOp) (e : Int) (he : e ≠ 0) : KpR S l x (([], 0, e), S) := by
  have e1 : limUp l x e = l := by unfold limUp; rw [if_neg (fun hh => he hh.1), if_neg (fun hh => he hh.1)]
  have e2 : cameM S x e = 0 := by unfold cameM; rw [if_neg (fun hh => he hh.1), if_neg (fun hh => he hh.1)]
  exact ⟨by rw [e1]; exact h, fun _ => ⟨rfl, rfl, rfl⟩, by simp [e2, qtyS], fun t ht => (by cases ht), by simp [qtyS], by simp⟩
theorem meetL_len (side : Int) (nm : ByteArray) (p : Int) : ∀ (l : List Mo) (left : Int) (out : List Tr), (meetL side nm p left l out).2.2.length ≤ out.length + l.length
  | [], left, out => by simp [meetL]
  | x :: l, left, out => by
    unfold meetL
    split
    · split
      · simp only [List.length_append, List.length_cons, List.length_nil]; omega
      · have := meetL_len side nm p l (left - x.left) (out ++ [⟨x.id, nm, x.left, x.price⟩])
        simp only [List.length_append, List.length_cons, List.length_nil] at this ⊢
        omega
    · simp only; omega
theorem meetM_len (sd : Nat) (S : Sd) (nm : ByteArray) (left p : Int) : (meetM sd S nm left p).1.length ≤ S.1.length + S.2.length := by
  have := meetL_len ((sd + 1 : Nat) : Int) nm p (S.at (1 - sd)) left []
  have h2 : (S.at (1 - sd)).length ≤ S.1.length + S.2.length := by unfold Sd.at; split <;> omega
  have e : (meetM sd S nm left p).1 = (meetL ((sd + 1 : Nat) : Int) nm p left (S.at (1 - sd)) []).2.2 := rfl
  rw [e]
  simp only [List.length_nil] at this
  omega
theorem KpR.add {S : Sd} {l : SlO} (h : KpI S l) (nm : ByteArray) (sd qt pr : Int) : KpR S l (1, nm, sd, qt, pr) (((addM S nm sd qt pr).1.1, 0, (addM S nm sd qt pr).1.2), (addM S nm sd qt pr).2) := by
  unfold addM
  split
  · exact KpR.none h _ 43 (by decide)
  · split
    · exact KpR.none h _ 2 (by decide)
    · rename_i hok
      split
      · exact KpR.none h _ 41 (by decide)
      · rename_i hfd
        split
        · exact KpR.none h _ 40 (by decide)
        · have hin := okB_iff.1 (by simpa using hok)
          have hnm := foundB_not (by simpa using hfd)
          have hsd : sd.toNat - 1 = 0 ∨ sd.toNat - 1 = 1 := by omega
          have hsd2 : ((sd.toNat - 1 + 1 : Nat) : Int) = sd := by omega
          have hms := meetM_sum (sd.toNat - 1) hsd h.i.ok nm qt pr hin.2.1.1 hin.2.1.2
          have hk := h.meet (sd.toNat - 1) hsd nm hnm 1 qt pr hin.2.1.1 hin.2.1.2 hin.2.2 (by omega)
          have ht := h.trades (sd.toNat - 1) hsd nm hnm 1 qt pr hin.2.1.1 hin.2.1.2
          have hl := meetM_len (sd.toNat - 1) S nm qt pr
          have hn := h.i.n
          rw [hsd2] at hk ht
          have e1 : limUp l (1, nm, sd, qt, pr) 0 = putO l nm ⟨1, nm, sd, qt, pr⟩ := if_pos ⟨rfl, rfl⟩
          have e2 : cameM S (1, nm, sd, qt, pr) 0 = qt := if_pos ⟨rfl, rfl⟩
          refine ⟨by rw [e1]; exact hk, fun hne => absurd rfl hne, ?_, by rw [e1]; exact ht, ⟨hms.2.1, by simp only; omega⟩, by simp only; omega⟩
          simp only [e2]
          omega
theorem KpR.can {S : Sd} {l : SlO} (h : KpI S l) (nm : ByteArray) (sd qt pr : Int) : KpR S l (2, nm, sd, qt, pr) (([], (canM S nm).1.1, (canM S nm).1.2), (canM S nm).2) := by
  have e1 : limUp l (2, nm, sd, qt, pr) 0 = l := rfl
  have e2 : cameM S (2, nm, sd, qt, pr) 0 = 0 := rfl
  unfold canM
  split
  · rename_i o ho
    have hk := (h.cut 0 _ (.inl rfl) o ho).1
    have hs := cut_sum ho
    refine ⟨hk, fun hne => absurd rfl hne, ?_, fun t ht => (by cases ht), by simp [qtyS], by simp⟩
    simp only [e2, sumS, Sd.put, if_true]
    simp [qtyS]
    omega
  · split
    · rename_i o ho
      have hk := (h.cut 1 _ (.inr rfl) o ho).1
      have hs := cut_sum ho
      refine ⟨hk, fun hne => absurd rfl hne, ?_, fun t ht => (by cases ht), by simp [qtyS], by simp⟩
      simp only [e2, sumS, Sd.put]
      simp [qtyS]
      omega
    · exact KpR.none h _ 42 (by decide)

end Go.Proofs.Ytjhlaifflhjafaa
