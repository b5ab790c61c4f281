import Derived.Test.YtjhlaifflhjafaaNo
namespace Go.Proofs.Ytjhlaifflhjafaa
open Go.RowKit

/-! All that holds of a book's sides at all times. -/
structure MbI (S : Sd) : Prop where
  ok : MbOk S
  p1 : ∀ x ∈ S.1, 1 ≤ x.price ∧ x.price ≤ 1099511627776
  p2 : ∀ x ∈ S.2, 1 ≤ x.price ∧ x.price ≤ 1099511627776
  un : ∀ b ∈ S.1, ∀ s ∈ S.2, b.price < s.price
  n : S.1.length + S.2.length ≤ 512
theorem MbI.empty : MbI ([], []) := ⟨MbOk.empty, fun _ h => (by cases h), fun _ h => (by cases h), fun _ h => (by cases h), by simp⟩
theorem meetL_price (side : Int) (nm : ByteArray) (p : Int) : ∀ (l : List Mo) (left : Int) (out : List Tr), ∀ x ∈ (meetL side nm p left l out).2.1, ∃ y ∈ l, y.price = x.price
  | [], left, out, x, hx => by cases hx
  | a :: l, left, out, x, hx => by
    unfold meetL at hx
    split at hx
    · split at hx
      · rcases List.mem_cons.1 hx with rfl | hx
        · exact ⟨a, List.mem_cons_self .., rfl⟩
        · exact ⟨x, List.mem_cons_of_mem _ hx, rfl⟩
      · obtain ⟨y, hy, he⟩ := meetL_price side nm p l _ _ x hx
        exact ⟨y, List.mem_cons_of_mem _ hy, he⟩
    · exact ⟨x, hx, rfl⟩
theorem meetL_stop (side : Int) (nm : ByteArray) (p : Int) : ∀ (l : List Mo) (left : Int) (out : List Tr) (x : Mo) (t : List Mo), 0 < (meetL side nm p left l out).1 → (meetL side nm p left l out).2.1 = x :: t → goodB side p x.price = false
  | [], left, out, x, t, h0, hx => by cases hx
  | a :: l, left, out, x, t, h0, hx => by
    unfold meetL at h0 hx
    split at h0
    · rename_i hg
      rw [if_pos hg] at hx
      split at h0
      · simp at h0
      · rename_i hlt
        rw [if_neg hlt] at hx
        exact meetL_stop side nm p l _ _ x t h0 hx
    · rename_i hg
      rw [if_neg hg] at hx
      have e := (List.cons.inj hx).1
      subst e
      cases hgg : goodB side p a.price with
      | false => rfl
      | true => exact absurd ⟨h0, hgg⟩ hg
theorem MbI.meet0 {S : Sd} (h : MbI S) (nm : ByteArray) (left p : Int) (h1 : 1 ≤ left) (h2 : left ≤ 1099511627776) (hp : 1 ≤ p ∧ p ≤ 1099511627776) (hn : S.1.length + S.2.length < 512) : MbI (meetM 0 S nm left p).2 := by
  have hok := h.ok.meet 0 (.inl rfl) nm left p h1 h2
  obtain ⟨-, hs, -, -⟩ := meetL_ok 1 nm p 2 S.2 left [] (by omega) h2 h.ok.s2 h.ok.b2
  have hpr := meetL_price 1 nm p S.2 left []
  have hst := meetL_stop 1 nm p S.2 left []
  have e : (meetM 0 S nm left p).2 = if 0 < (meetL 1 nm p left S.2 []).1 then (insM 1 ⟨nm, (meetL 1 nm p left S.2 []).1, p⟩ S.1, (meetL 1 nm p left S.2 []).2.1) else (S.1, (meetL 1 nm p left S.2 []).2.1) := rfl
  rw [e] at hok ⊢
  generalize meetL 1 nm p left S.2 [] = R at *
  have hp2 : ∀ x ∈ R.2.1, 1 ≤ x.price ∧ x.price ≤ 1099511627776 := fun x hx => by
    obtain ⟨y, hy, he⟩ := hpr x hx
    rw [← he]; exact h.p2 y hy
  have hun : ∀ b ∈ S.1, ∀ s ∈ R.2.1, b.price < s.price := fun b hb s hs => by
    obtain ⟨y, hy, he⟩ := hpr s hs
    rw [← he]; exact h.un b hb y hy
  split
  · rename_i h0
    rw [if_pos h0] at hok
    refine ⟨hok.1, fun x hx => ?_, hp2, fun b hb s hss => ?_, by have := hok.2; omega⟩
    · rcases insM_mem.1 hx with rfl | hx
      · exact hp
      · exact h.p1 x hx
    · rcases insM_mem.1 hb with rfl | hb
      · simp only at hss ⊢
        cases hR : R.2.1 with
        | nil => rw [hR] at hss; cases hss
        | cons y t =>
          have hg := hst y t h0 hR
          have hy : p < y.price := by unfold goodB at hg; simp at hg; omega
          rw [hR] at hss hs
          rcases List.mem_cons.1 hss with rfl | hst2
          · exact hy
          · have := (List.pairwise_cons.1 hs).1 s hst2
            unfold btr at this
            simp at this
            omega
      · exact hun b hb s hss
  · rename_i h0
    rw [if_neg h0] at hok
    exact ⟨hok.1, h.p1, hp2, hun, by have := hok.2; omega⟩
theorem MbI.meet1 {S : Sd} (h : MbI S) (nm : ByteArray) (left p : Int) (h1 : 1 ≤ left) (h2 : left ≤ 1099511627776) (hp : 1 ≤ p ∧ p ≤ 1099511627776) (hn : S.1.length + S.2.length < 512) : MbI (meetM 1 S nm left p).2 := by
  have hok := h.ok.meet 1 (.inr rfl) nm left p h1 h2
  obtain ⟨-, hs, -, -⟩ := meetL_ok 2 nm p 1 S.1 left [] (by omega) h2 h.ok.s1 h.ok.b1
  have hpr := meetL_price 2 nm p S.1 left []
  have hst := meetL_stop 2 nm p S.1 left []
  have e : (meetM 1 S nm left p).2 = if 0 < (meetL 2 nm p left S.1 []).1 then ((meetL 2 nm p left S.1 []).2.1, insM 2 ⟨nm, (meetL 2 nm p left S.1 []).1, p⟩ S.2) else ((meetL 2 nm p left S.1 []).2.1, S.2) := rfl
  rw [e] at hok ⊢
  generalize meetL 2 nm p left S.1 [] = R at *
  have hp2 : ∀ x ∈ R.2.1, 1 ≤ x.price ∧ x.price ≤ 1099511627776 := fun x hx => by
    obtain ⟨y, hy, he⟩ := hpr x hx
    rw [← he]; exact h.p1 y hy
  have hun : ∀ b ∈ R.2.1, ∀ s ∈ S.2, b.price < s.price := fun b hb s hs => by
    obtain ⟨y, hy, he⟩ := hpr b hb
    rw [← he]; exact h.un y hy s hs
  split
  · rename_i h0
    rw [if_pos h0] at hok
    refine ⟨hok.1, hp2, fun x hx => ?_, fun b hbb s hss => ?_, by have := hok.2; omega⟩
    · rcases insM_mem.1 hx with rfl | hx
      · exact hp
      · exact h.p2 x hx
    · rcases insM_mem.1 hss with rfl | hss
      · simp only at hbb ⊢
        cases hR : R.2.1 with
        | nil => rw [hR] at hbb; cases hbb
        | cons y t =>
          have hg := hst y t h0 hR
          have hy : y.price < p := by unfold goodB at hg; simp at hg; omega
          rw [hR] at hbb hs
          rcases List.mem_cons.1 hbb with rfl | hst2
          · exact hy
          · have := (List.pairwise_cons.1 hs).1 b hst2
            unfold btr at this
            simp at this
            omega
      · exact hun b hbb s hss
  · rename_i h0
    rw [if_neg h0] at hok
    exact ⟨hok.1, hp2, h.p2, hun, by have := hok.2; omega⟩
theorem MbI.meet {S : Sd} (h : MbI S) (sd : Nat) (hsd : sd = 0 ∨ sd = 1) (nm : ByteArray) (left p : Int) (h1 : 1 ≤ left) (h2 : left ≤ 1099511627776) (hp : 1 ≤ p ∧ p ≤ 1099511627776) (hn : S.1.length + S.2.length < 512) : MbI (meetM sd S nm left p).2 := by
  rcases hsd with rfl | rfl
  · exact h.meet0 nm left p h1 h2 hp hn
  · exact h.meet1 nm left p h1 h2 hp hn
theorem MbI.add {S : Sd} (h : MbI S) (id : ByteArray) (side qty price : Int) : MbI (addM S id side qty price).2 := by
  unfold addM
  split
  · exact h
  · split
    · exact h
    · rename_i hok
      split
      · exact h
      · split
        · exact h
        · have hin := okB_iff.1 (by simpa using hok)
          exact h.meet (side.toNat - 1) (by omega) id qty price hin.2.1.1 hin.2.1.2 hin.2.2 (by omega)
theorem MbI.cut {S : Sd} (h : MbI S) (sd k : Nat) (hsd : sd = 0 ∨ sd = 1) : MbI (S.put sd (cutAt k (S.at sd))) := by
  have hok := h.ok.cut sd k hsd
  have hn := h.n
  rcases hsd with rfl | rfl
  · exact ⟨hok, fun x hx => h.p1 x ((cut_sub _ _).subset hx), h.p2, fun b hb s hs => h.un b ((cut_sub _ _).subset hb) s hs, by have := cut_le k S.1; simp [Sd.put, Sd.at]; omega⟩
  · exact ⟨hok, h.p1, fun x hx => h.p2 x ((cut_sub _ _).subset hx), fun b hb s hs => h.un b hb s ((cut_sub _ _).subset hs), by have := cut_le k S.2; simp [Sd.put, Sd.at]; omega⟩
theorem MbI.can {S : Sd} (h : MbI S) (id : ByteArray) : MbI (canM S id).2 := by
  unfold canM
  split
  · exact h.cut 0 _ (.inl rfl)
  · split
    · exact h.cut 1 _ (.inr rfl)
    · exact h
theorem MbI.set {S : Sd} (h : MbI S) (sd k : Nat) (hsd : sd = 0 ∨ sd = 1) (o : Mo) (ho : (S.at sd)[k]? = some o) (v : Int) (h1 : 1 ≤ v) (h2 : v ≤ 1099511627776) : MbI (S.put sd ((S.at sd).set k { o with left := v })) := by
  have hok := h.ok.set sd k hsd o ho v h1 h2
  have hn := h.n
  have hm := List.mem_of_getElem? ho
  rcases hsd with rfl | rfl
  · refine ⟨hok, fun x hx => ?_, h.p2, fun b hb s hs => ?_, by simp [Sd.put, Sd.at]; omega⟩
    · rcases List.mem_or_eq_of_mem_set hx with hx | rfl
      · exact h.p1 x hx
      · exact h.p1 o hm
    · rcases List.mem_or_eq_of_mem_set hb with hb | rfl
      · exact h.un b hb s hs
      · exact h.un o hm s hs
  · refine ⟨hok, h.p1, fun x hx => ?_, fun b hb s hs => ?_, by simp [Sd.put, Sd.at]; omega⟩
    · rcases List.mem_or_eq_of_mem_set hx with hx | rfl
      · exact h.p2 x hx
      · exact h.p2 o hm
    · rcases List.mem_or_eq_of_mem_set hs with hs | rfl
      · exact h.un b hb s hs
      · exact h.un b hb o hm
theorem MbI.repAt {S : Sd} (h : MbI S) (sd k : Nat) (hsd : sd = 0 ∨ sd = 1) (o : Mo) (ho : (S.at sd)[k]? = some o) (id : ByteArray) (qty price : Int) : MbI (Go.Proofs.Ytjhlaifflhjafaa.repAt S sd k o id qty price).2 := by
  unfold Go.Proofs.Ytjhlaifflhjafaa.repAt
  split
  · exact h
  · rename_i hb
    have hb2 : (inB qty 1 1099511627776 && inB price 1 1099511627776) = true := by simpa using hb
    rw [Bool.and_eq_true] at hb2
    have hq := inB_iff.1 hb2.1
    split
    · exact h.set sd k hsd o ho qty hq.1 hq.2
    · have hk := (List.getElem?_eq_some_iff.1 ho).1
      have hn := h.n
      have hc := cutAt_len hk
      refine (h.cut sd k hsd).meet sd hsd id qty price hq.1 hq.2 (inB_iff.1 hb2.2) ?_
      rcases hsd with rfl | rfl
      · simp [Sd.put, Sd.at] at hc hk ⊢; omega
      · simp [Sd.put, Sd.at] at hc hk ⊢; omega
theorem MbI.rep {S : Sd} (h : MbI S) (id : ByteArray) (qty price : Int) : MbI (repM S id qty price).2 := by
  unfold repM
  split
  · rename_i o ho
    exact h.repAt 0 _ (.inl rfl) o ho id qty price
  · split
    · rename_i o ho
      exact h.repAt 1 _ (.inr rfl) o ho id qty price
    · exact h

/-- An op of the program: the trades, what was canceled, the error; the sides. -/
def doM (S : Sd) (x : MOp) : (List Tr × Int × Int) × Sd :=
  if x.1 = 1 then (((addM S x.2.1 x.2.2.1 x.2.2.2.1 x.2.2.2.2).1.1, 0, (addM S x.2.1 x.2.2.1 x.2.2.2.1 x.2.2.2.2).1.2), (addM S x.2.1 x.2.2.1 x.2.2.2.1 x.2.2.2.2).2)
  else if x.1 = 2 then (([], (canM S x.2.1).1.1, (canM S x.2.1).1.2), (canM S x.2.1).2)
  else if x.1 = 3 then (((repM S x.2.1 x.2.2.2.1 x.2.2.2.2).1.1, 0, (repM S x.2.1 x.2.2.2.1 x.2.2.2.2).1.2), (repM S x.2.1 x.2.2.2.1 x.2.2.2.2).2)
  else (([], 0, 0), S)
theorem MbI.do_ {S : Sd} (h : MbI S) (x : MOp) : MbI (doM S x).2 := by
  unfold doM
  split
  · exact h.add _ _ _ _
  · split
    · exact h.can _
    · split
      · exact h.rep _ _ _
      · exact h

set_option maxHeartbeats 1600000 in
set_option maxRecDepth 100000 in
theorem do50 (w : World) (mb : Nat) (v0 v1 : Value) (S : Sd) (h : MbAt w mb v0 v1 S) (hI : MbI S) (kd : Int) (nm : ByteArray) (sd qt pr : Int) :
    Calls Try.prog 50 #[.pointer (some ⟨mb, 0, none⟩), .agg #[.int .i64 kd, .string nm, .int .i64 sd, .int .i64 qt, .int .i64 pr]] w fun e w' => ∃ v, e = .returned (.tuple #[v, .int .i64 (doM S (kd, nm, sd, qt, pr)).1.2.1, .int .i64 (doM S (kd, nm, sd, qt, pr)).1.2.2]) ∧ w'.ownsRow (w.heap.size + 1) 108 4 v (doM S (kd, nm, sd, qt, pr)).1.1.length ((doM S (kd, nm, sd, qt, pr)).1.1.flatMap trC) ∧ MbTo w mb v0 v1 (doM S (kd, nm, sd, qt, pr)).2 w' := by
  have hO := Ob.new w 90 [.int .i64 kd, .string nm, .int .i64 sd, .int .i64 qt, .int .i64 pr]
  have H := Lib.hid h
  have HI := Lib.hid hI
  have hn := hI.n
  have HN : Hid (S.1.length + S.2.length < 1000) := Lib.hid (by omega)
  have HO := Lib.hid hO
  have hwl := h.ho.lt
  clear h hI hO hn
  by_cases k1 : kd = 1
  · subst k1
    have e : doM S (1, nm, sd, qt, pr) = (((addM S nm sd qt pr).1.1, 0, (addM S nm sd qt pr).1.2), (addM S nm sd qt pr).2) := if_pos rfl
    rw [e]
    have hc : ∀ V, MbAt V mb v0 v1 S → Calls Try.prog 34 #[.pointer (some ⟨mb, 0, none⟩), .string nm, .int .i64 sd, .int .i64 qt, .int .i64 pr] V fun e w' => TrP V mb v0 v1 (addM S nm sd qt pr) e w' := fun V hV => mo34 V mb v0 v1 S hV HI.out.ok nm sd qt pr
    have HC := Lib.hid hc
    generalize addM S nm sd qt pr = R at *
    clear e hc
    go_enter Try.func50, Try.ntmps50
    go_upto_region 1 with (fail)
    refine cutW (fun W => MbAt W mb v0 v1 S ∧ Ob W w.heap.size 90 [.int .i64 1, .string nm, .int .i64 sd, .int .i64 qt, .int .i64 pr] ∧ Below w.heap.size w W) ⟨H.out.below Below.alloc_set, HO.out, Below.alloc_set⟩ ?_
    rintro W ⟨hW, hO, hB⟩
    have hoc := hO.cell
    have HW := Lib.hid hW
    have HB := Lib.hid hB
    clear hW hO hB HO
    go_wp2_with (go_at_call 34; refine (HC.out _ HW.out).mono ?_; rintro e w2 ⟨v, rfl, hown, hto⟩)
    go_ret3
    exact ⟨v, rfl, own_base hown (by have := HB.out.size; omega), MbTo.trans H.out (Below.mods_ HB.out _) (fun k hk => .inl hk) hto⟩
  by_cases k2 : kd = 2
  · subst k2
    have e : doM S (2, nm, sd, qt, pr) = (([], (canM S nm).1.1, (canM S nm).1.2), (canM S nm).2) := rfl
    rw [e]
    have hc : ∀ V, MbAt V mb v0 v1 S → Calls Try.prog 46 #[.pointer (some ⟨mb, 0, none⟩), .string nm] V fun e w' => e = .returned (.tuple #[.int .i64 (canM S nm).1.1, .int .i64 (canM S nm).1.2]) ∧ MbTo V mb v0 v1 (canM S nm).2 w' := fun V hV => mo46 V mb v0 v1 S hV HN.out nm
    have HC := Lib.hid hc
    generalize canM S nm = R at *
    clear e hc k1
    go_enter Try.func50, Try.ntmps50
    go_upto_region 1 with (fail)
    refine cutW (fun W => MbAt W mb v0 v1 S ∧ Ob W w.heap.size 90 [.int .i64 2, .string nm, .int .i64 sd, .int .i64 qt, .int .i64 pr] ∧ Below w.heap.size w W) ⟨H.out.below Below.alloc_set, HO.out, Below.alloc_set⟩ ?_
    rintro W ⟨hW, hO, hB⟩
    have hoc := hO.cell
    have HW := Lib.hid hW
    have HB := Lib.hid hB
    clear hW hO hB HO
    go_wp2_with (go_at_call 46; refine (HC.out _ HW.out).mono ?_; rintro e w2 ⟨rfl, hto⟩)
    go_ret3
    exact ⟨_, rfl, own_nil _ _ _ _, MbTo.trans H.out (Below.mods_ HB.out _) (fun k hk => .inl hk) hto⟩
  by_cases k3 : kd = 3
  · subst k3
    have e : doM S (3, nm, sd, qt, pr) = (((repM S nm qt pr).1.1, 0, (repM S nm qt pr).1.2), (repM S nm qt pr).2) := rfl
    rw [e]
    have hc : ∀ V, MbAt V mb v0 v1 S → Calls Try.prog 47 #[.pointer (some ⟨mb, 0, none⟩), .string nm, .int .i64 qt, .int .i64 pr] V fun e w' => TrP V mb v0 v1 (repM S nm qt pr) e w' := fun V hV => mo47 V mb v0 v1 S hV HN.out HI.out.ok nm qt pr
    have HC := Lib.hid hc
    generalize repM S nm qt pr = R at *
    clear e hc k1 k2
    go_enter Try.func50, Try.ntmps50
    go_upto_region 1 with (fail)
    refine cutW (fun W => MbAt W mb v0 v1 S ∧ Ob W w.heap.size 90 [.int .i64 3, .string nm, .int .i64 sd, .int .i64 qt, .int .i64 pr] ∧ Below w.heap.size w W) ⟨H.out.below Below.alloc_set, HO.out, Below.alloc_set⟩ ?_
    rintro W ⟨hW, hO, hB⟩
    have hoc := hO.cell
    have HW := Lib.hid hW
    have HB := Lib.hid hB
    clear hW hO hB HO
    go_wp2_with (go_at_call 47; refine (HC.out _ HW.out).mono ?_; rintro e w2 ⟨v, rfl, hown, hto⟩)
    go_ret3
    exact ⟨v, rfl, own_base hown (by have := HB.out.size; omega), MbTo.trans H.out (Below.mods_ HB.out _) (fun k hk => .inl hk) hto⟩
  have e : doM S (kd, nm, sd, qt, pr) = (([], 0, 0), S) := by unfold doM; rw [if_neg k1, if_neg k2, if_neg k3]
  rw [e]
  clear e
  go_enter Try.func50, Try.ntmps50
  go_upto_region 1 with (fail)
  refine cutW (fun W => MbAt W mb v0 v1 S ∧ Ob W w.heap.size 90 [.int .i64 kd, .string nm, .int .i64 sd, .int .i64 qt, .int .i64 pr] ∧ Below w.heap.size w W) ⟨H.out.below Below.alloc_set, HO.out, Below.alloc_set⟩ ?_
  rintro W ⟨hW, hO, hB⟩
  have hoc := hO.cell
  have HW := Lib.hid hW
  have HB := Lib.hid hB
  clear hW hO hB HO
  go_wp2_with fail
  go_ret3
  exact ⟨_, rfl, own_nil _ _ _ _, MbTo.same H.out HB.out⟩

end Go.Proofs.Ytjhlaifflhjafaa
