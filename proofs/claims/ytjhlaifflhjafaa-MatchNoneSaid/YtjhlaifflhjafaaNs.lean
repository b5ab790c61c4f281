import Derived.Test.YtjhlaifflhjafaaNq
namespace Go.Proofs.Ytjhlaifflhjafaa
open Go.RowKit

/-! MatchKeeps, the plain law: sums, and what a trade is. -/
def qtyS (l : List Tr) : Int := (l.map (·.qty)).sum
def sumS (S : Sd) : Int := leftS S.1 + leftS S.2
theorem leftS_app (a b : List Mo) : leftS (a ++ b) = leftS a + leftS b := by simp [leftS]
theorem leftS_cons (x : Mo) (b : List Mo) : leftS (x :: b) = x.left + leftS b := by simp [leftS]
theorem qtyS_app (a b : List Tr) : qtyS (a ++ b) = qtyS a + qtyS b := by simp [qtyS]
theorem qtyS_one (x : Tr) : qtyS [x] = x.qty := by simp [qtyS]
theorem meetL_sum (side : Int) (nm : ByteArray) (p : Int) : ∀ (l : List Mo) (left : Int) (out : List Tr),
    leftS (meetL side nm p left l out).2.1 = leftS l - (left - (meetL side nm p left l out).1) ∧ qtyS (meetL side nm p left l out).2.2 = qtyS out + (left - (meetL side nm p left l out).1)
  | [], left, out => by simp [meetL]
  | x :: l, left, out => by
    unfold meetL
    split
    · split
      · simp only [leftS_cons, qtyS_app, qtyS_one]
        omega
      · have ih := meetL_sum side nm p l (left - x.left) (out ++ [⟨x.id, nm, x.left, x.price⟩])
        simp only [leftS_cons]
        rw [qtyS_app, qtyS_one] at ih
        simp only at ih
        omega
    · simp only
      omega
theorem meetL_le (side : Int) (nm : ByteArray) (p : Int) : ∀ (l : List Mo) (left : Int) (out : List Tr), 0 ≤ left → (∀ x ∈ l, 1 ≤ x.left) → 0 ≤ left - (meetL side nm p left l out).1
  | [], left, out, h0, hb => by simp [meetL]
  | x :: l, left, out, h0, hb => by
    have hx := hb x (List.mem_cons_self ..)
    unfold meetL
    split
    · split
      · simp only; omega
      · have ih := meetL_le side nm p l (left - x.left) (out ++ [⟨x.id, nm, x.left, x.price⟩]) (by omega) (fun y hy => hb y (List.mem_cons_of_mem _ hy))
        omega
    · simp only; omega
/-- What a trade is. -/
def TrOk (side : Int) (nm : ByteArray) (p : Int) (l : List Mo) (t : Tr) : Prop := t.taker = nm ∧ 1 ≤ t.qty ∧ goodB side p t.price = true ∧ ∃ x ∈ l, x.id = t.maker ∧ x.price = t.price
theorem TrOk.mono {side : Int} {nm : ByteArray} {p : Int} {l l' : List Mo} {t : Tr} (h : TrOk side nm p l t) (hs : ∀ x ∈ l, x ∈ l') : TrOk side nm p l' t := by
  obtain ⟨a, b, c, x, hx, d⟩ := h
  exact ⟨a, b, c, x, hs x hx, d⟩
theorem meetL_tr (side : Int) (nm : ByteArray) (p : Int) : ∀ (l : List Mo) (left : Int) (out : List Tr), (∀ x ∈ l, 1 ≤ x.left) → ∀ t ∈ (meetL side nm p left l out).2.2, t ∈ out ∨ TrOk side nm p l t
  | [], left, out, hb, t, ht => .inl ht
  | x :: l, left, out, hb, t, ht => by
    have hx := hb x (List.mem_cons_self ..)
    unfold meetL at ht
    split at ht
    · rename_i hg
      split at ht
      · rcases List.mem_append.1 ht with ht | ht
        · exact .inl ht
        · rw [List.mem_singleton] at ht
          subst ht
          exact .inr ⟨rfl, by simp only; omega, hg.2, x, List.mem_cons_self .., rfl, rfl⟩
      · rcases meetL_tr side nm p l _ _ (fun y hy => hb y (List.mem_cons_of_mem _ hy)) t ht with ht | ht
        · rcases List.mem_append.1 ht with ht | ht
          · exact .inl ht
          · rw [List.mem_singleton] at ht
            subst ht
            exact .inr ⟨rfl, hx, hg.2, x, List.mem_cons_self .., rfl, rfl⟩
        · exact .inr (ht.mono (fun y hy => List.mem_cons_of_mem _ hy))
    · exact .inl ht
theorem insM_sum (side : Int) (o : Mo) (l : List Mo) : leftS (insM side o l) = leftS l + o.left := by
  unfold insM putAt
  rw [leftS_app, leftS_cons]
  have : leftS l = leftS (l.take (mPos side o.price l)) + leftS (l.drop (mPos side o.price l)) := by rw [← leftS_app, List.take_append_drop]
  omega
theorem cut_sum {l : List Mo} {k : Nat} {o : Mo} (h : l[k]? = some o) : leftS (cutAt k l) = leftS l - o.left := by
  have hs := split_at h
  have : leftS l = leftS (l.take k) + (o.left + leftS (l.drop (k + 1))) := by
    conv => lhs; rw [hs]
    rw [leftS_app, leftS_cons]
  unfold cutAt
  rw [leftS_app]
  omega
theorem set_sum {l : List Mo} {k : Nat} {o : Mo} (h : l[k]? = some o) (v : Int) : leftS (l.set k { o with left := v }) = leftS l - o.left + v := by
  induction l generalizing k with
  | nil => simp at h
  | cons x l ih =>
    cases k with
    | zero =>
      simp only [List.getElem?_cons_zero, Option.some.injEq] at h
      subst h
      simp only [List.set_cons_zero, leftS_cons]
      omega
    | succ k =>
      have := ih (k := k) (by simpa using h)
      simp only [List.set_cons_succ, leftS_cons, this]
      omega
theorem meetM_sum {S : Sd} (sd : Nat) (hsd : sd = 0 ∨ sd = 1) (hok : MbOk S) (nm : ByteArray) (left p : Int) (h1 : 1 ≤ left) (h2 : left ≤ 1099511627776) :
    sumS (meetM sd S nm left p).2 = sumS S + left - 2 * qtyS (meetM sd S nm left p).1 ∧ 0 ≤ qtyS (meetM sd S nm left p).1 ∧ qtyS (meetM sd S nm left p).1 ≤ left ∧ ∀ t ∈ (meetM sd S nm left p).1, TrOk (sd + 1 : Nat) nm p (S.at (1 - sd)) t := by
  rcases hsd with rfl | rfl
  · obtain ⟨⟨a0, a1⟩, -, -, -⟩ := meetL_ok 1 nm p 2 S.2 left [] (by omega) h2 hok.s2 hok.b2
    obtain ⟨s1, s2⟩ := meetL_sum 1 nm p S.2 left []
    have htr := meetL_tr 1 nm p S.2 left [] (fun x hx => (hok.b2 x hx).1)
    have e1 : (meetM 0 S nm left p).1 = (meetL 1 nm p left S.2 []).2.2 := rfl
    have e2 : (meetM 0 S nm left p).2 = if 0 < (meetL 1 nm p left S.2 []).1 then (insM 1 ⟨nm, (meetL 1 nm p left S.2 []).1, p⟩ S.1, (meetL 1 nm p left S.2 []).2.1) else (S.1, (meetL 1 nm p left S.2 []).2.1) := rfl
    have hle : 0 ≤ left - (meetL 1 nm p left S.2 []).1 := meetL_le 1 nm p S.2 left [] (by omega) (fun x hx => (hok.b2 x hx).1)
    rw [e1, e2]
    have q0 : qtyS [] = 0 := rfl
    generalize meetL 1 nm p left S.2 [] = R at *
    refine ⟨?_, by omega, by omega, fun t ht => ?_⟩
    · split
      · simp only [sumS, insM_sum]; omega
      · simp only [sumS]; omega
    · rcases htr t ht with h | h
      · cases h
      · exact h
  · obtain ⟨⟨a0, a1⟩, -, -, -⟩ := meetL_ok 2 nm p 1 S.1 left [] (by omega) h2 hok.s1 hok.b1
    obtain ⟨s1, s2⟩ := meetL_sum 2 nm p S.1 left []
    have htr := meetL_tr 2 nm p S.1 left [] (fun x hx => (hok.b1 x hx).1)
    have e1 : (meetM 1 S nm left p).1 = (meetL 2 nm p left S.1 []).2.2 := rfl
    have e2 : (meetM 1 S nm left p).2 = if 0 < (meetL 2 nm p left S.1 []).1 then ((meetL 2 nm p left S.1 []).2.1, insM 2 ⟨nm, (meetL 2 nm p left S.1 []).1, p⟩ S.2) else ((meetL 2 nm p left S.1 []).2.1, S.2) := rfl
    have hle : 0 ≤ left - (meetL 2 nm p left S.1 []).1 := meetL_le 2 nm p S.1 left [] (by omega) (fun x hx => (hok.b1 x hx).1)
    rw [e1, e2]
    have q0 : qtyS [] = 0 := rfl
    generalize meetL 2 nm p left S.1 [] = R at *
    refine ⟨?_, by omega, by omega, fun t ht => ?_⟩
    · split
      · simp only [sumS, insM_sum]; omega
      · simp only [sumS]; omega
    · rcases htr t ht with h | h
      · cases h
      · exact h

end Go.Proofs.Ytjhlaifflhjafaa
