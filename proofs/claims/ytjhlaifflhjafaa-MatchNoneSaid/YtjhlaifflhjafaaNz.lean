import Derived.Test.YtjhlaifflhjafaaNy
namespace Go.Proofs.Ytjhlaifflhjafaa
open Go.RowKit

theorem ids_meet {S : Sd} (sd : Nat) (hsd : sd = 0 ∨ sd = 1) (nm : ByteArray) (left p : Int) : ∀ y ∈ idsS (meetM sd S nm left p).2, y = nm ∨ y ∈ idsS S := by
  intro y hy
  rcases hsd with rfl | rfl
  · have hs := meetL_ids 1 nm p S.2 left []
    have e : (meetM 0 S nm left p).2 = if 0 < (meetL 1 nm p left S.2 []).1 then (insM 1 ⟨nm, (meetL 1 nm p left S.2 []).1, p⟩ S.1, (meetL 1 nm p left S.2 []).2.1) else (S.1, (meetL 1 nm p left S.2 []).2.1) := rfl
    rw [e] at hy
    generalize meetL 1 nm p left S.2 [] = R at *
    split at hy
    · rcases List.mem_append.1 hy with hy | hy
      · rcases List.mem_cons.1 ((insM_ids 1 ⟨nm, R.1, p⟩ S.1).mem_iff.1 hy) with hy | hy
        · exact .inl hy
        · exact .inr (List.mem_append_left _ hy)
      · exact .inr (List.mem_append_right _ (hs.subset hy))
    · rcases List.mem_append.1 hy with hy | hy
      · exact .inr (List.mem_append_left _ hy)
      · exact .inr (List.mem_append_right _ (hs.subset hy))
  · have hs := meetL_ids 2 nm p S.1 left []
    have e : (meetM 1 S nm left p).2 = if 0 < (meetL 2 nm p left S.1 []).1 then ((meetL 2 nm p left S.1 []).2.1, insM 2 ⟨nm, (meetL 2 nm p left S.1 []).1, p⟩ S.2) else ((meetL 2 nm p left S.1 []).2.1, S.2) := rfl
    rw [e] at hy
    generalize meetL 2 nm p left S.1 [] = R at *
    split at hy
    · rcases List.mem_append.1 hy with hy | hy
      · exact .inr (List.mem_append_left _ (hs.subset hy))
      · rcases List.mem_cons.1 ((insM_ids 2 ⟨nm, R.1, p⟩ S.2).mem_iff.1 hy) with hy | hy
        · exact .inl hy
        · exact .inr (List.mem_append_right _ hy)
    · rcases List.mem_append.1 hy with hy | hy
      · exact .inr (List.mem_append_left _ (hs.subset hy))
      · exact .inr (List.mem_append_right _ hy)
theorem ids_cut {S : Sd} (sd k : Nat) (hsd : sd = 0 ∨ sd = 1) : ∀ y ∈ idsS (S.put sd (cutAt k (S.at sd))), y ∈ idsS S := by
  intro y hy
  rcases hsd with rfl | rfl
  · rcases List.mem_append.1 hy with hy | hy
    · exact List.mem_append_left _ (((cut_sub k S.1).map _).subset hy)
    · exact List.mem_append_right _ hy
  · rcases List.mem_append.1 hy with hy | hy
    · exact List.mem_append_left _ hy
    · exact List.mem_append_right _ (((cut_sub k S.2).map _).subset hy)
theorem ids_set {S : Sd} (sd k : Nat) (hsd : sd = 0 ∨ sd = 1) (o : Mo) (ho : (S.at sd)[k]? = some o) (v : Int) : ∀ y ∈ idsS (S.put sd ((S.at sd).set k { o with left := v })), y ∈ idsS S := by
  intro y hy
  have hm := List.mem_of_getElem? ho
  rcases hsd with rfl | rfl
  · rcases List.mem_append.1 hy with hy | hy
    · obtain ⟨x, hx, rfl⟩ := List.mem_map.1 hy
      rcases List.mem_or_eq_of_mem_set hx with hx | rfl
      · exact List.mem_append_left _ (List.mem_map_of_mem hx)
      · exact List.mem_append_left _ (List.mem_map.2 ⟨o, hm, rfl⟩)
    · exact List.mem_append_right _ hy
  · rcases List.mem_append.1 hy with hy | hy
    · exact List.mem_append_left _ hy
    · obtain ⟨x, hx, rfl⟩ := List.mem_map.1 hy
      rcases List.mem_or_eq_of_mem_set hx with hx | rfl
      · exact List.mem_append_right _ (List.mem_map_of_mem hx)
      · exact List.mem_append_right _ (List.mem_map.2 ⟨o, hm, rfl⟩)
theorem ids_repAt {S : Sd} (sd k : Nat) (hsd : sd = 0 ∨ sd = 1) (o : Mo) (ho : (S.at sd)[k]? = some o) (nm : ByteArray) (qt pr : Int) : ∀ y ∈ idsS (repAt S sd k o nm qt pr).2, y = nm ∨ y ∈ idsS S := by
  intro y hy
  unfold repAt at hy
  split at hy
  · exact .inr hy
  · split at hy
    · exact .inr (ids_set sd k hsd o ho qt y hy)
    · rcases ids_meet sd hsd nm qt pr y hy with h | h
      · exact .inl h
      · exact .inr (ids_cut sd k hsd y h)
theorem ids_do (S : Sd) (x : MOp) : ∀ y ∈ idsS (doM S x).2, y = x.2.1 ∨ y ∈ idsS S := by
  intro y hy
  unfold doM at hy
  split at hy
  · unfold addM at hy
    split at hy
    · exact .inr hy
    · split at hy
      · exact .inr hy
      · rename_i hok
        split at hy
        · exact .inr hy
        · split at hy
          · exact .inr hy
          · have hin := okB_iff.1 (by simpa using hok)
            exact ids_meet _ (by omega) _ _ _ y hy
  · split at hy
    · right
      unfold canM at hy
      split at hy
      · exact ids_cut 0 _ (.inl rfl) y hy
      · split at hy
        · exact ids_cut 1 _ (.inr rfl) y hy
        · exact hy
    · split at hy
      · unfold repM at hy
        split at hy
        · rename_i o ho
          exact ids_repAt 0 _ (.inl rfl) o ho _ _ _ y hy
        · split at hy
          · rename_i o ho
            exact ids_repAt 1 _ (.inr rfl) o ho _ _ _ y hy
          · exact .inr hy
      · exact .inr hy
/-- No name is long. -/
def SzI (S : Sd) : Prop := ∀ y ∈ idsS S, y.size ≤ 100
theorem SzI.step {S : Sd} (h : SzI S) (x : MOp) (hx : x.2.1.size ≤ 100) : SzI (doM S x).2 := fun y hy => by
  rcases ids_do S x y hy with rfl | hy
  · exact hx
  · exact h y hy
theorem tr_ids {S : Sd} (sd : Nat) (hsd : sd = 0 ∨ sd = 1) (hok : MbOk S) (nm : ByteArray) (left p : Int) (h1 : 1 ≤ left) (h2 : left ≤ 1099511627776) : ∀ t ∈ (meetM sd S nm left p).1, t.maker ∈ idsS S := by
  intro t ht
  obtain ⟨-, -, -, x, hx, e, -⟩ := (meetM_sum sd hsd hok nm left p h1 h2).2.2.2 t ht
  rw [← e]
  rcases hsd with rfl | rfl
  · exact List.mem_append_right _ (List.mem_map_of_mem hx)
  · exact List.mem_append_left _ (List.mem_map_of_mem hx)
theorem tr_repAt {S : Sd} (h : MbOk S) (sd k : Nat) (hsd : sd = 0 ∨ sd = 1) (o : Mo) (nm : ByteArray) (qt pr : Int) : ∀ t ∈ (repAt S sd k o nm qt pr).1.1, t.maker ∈ idsS S := by
  intro t ht
  unfold repAt at ht
  split at ht
  · cases ht
  · rename_i hb
    split at ht
    · cases ht
    · have hb2 : (inB qt 1 1099511627776 && inB pr 1 1099511627776) = true := by simpa using hb
      rw [Bool.and_eq_true] at hb2
      have hq := inB_iff.1 hb2.1
      exact ids_cut sd k hsd _ (tr_ids sd hsd (h.cut sd k hsd) nm qt pr hq.1 hq.2 t ht)
theorem tr_do {S : Sd} (h : MbOk S) (x : MOp) : ∀ t ∈ (doM S x).1.1, t.maker ∈ idsS S := by
  intro t ht
  unfold doM at ht
  split at ht
  · unfold addM at ht
    split at ht
    · cases ht
    · split at ht
      · cases ht
      · rename_i hok
        split at ht
        · cases ht
        · split at ht
          · cases ht
          · have hin := okB_iff.1 (by simpa using hok)
            exact tr_ids _ (by omega) h _ _ _ hin.2.1.1 hin.2.1.2 t ht
  · split at ht
    · cases ht
    · split at ht
      · unfold repM at ht
        split at ht
        · exact tr_repAt h 0 _ (.inl rfl) _ _ _ _ t ht
        · split at ht
          · exact tr_repAt h 1 _ (.inr rfl) _ _ _ _ t ht
          · cases ht
      · cases ht

end Go.Proofs.Ytjhlaifflhjafaa
