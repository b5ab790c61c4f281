import Derived.Test.YtjhlaifflhjafaaNg
namespace Go.Proofs.Ytjhlaifflhjafaa
open Go.RowKit

def canM (S : Sd) (id : ByteArray) : (Int × Int) × Sd :=
  match S.1[mIdx S.1 id]? with
  | some o => ((o.left, 0), S.put 0 (cutAt (mIdx S.1 id) S.1))
  | none => match S.2[mIdx S.2 id]? with
    | some o => ((o.left, 0), S.put 1 (cutAt (mIdx S.2 id) S.2))
    | none => ((0, 42), S)
def repAt (S : Sd) (sd k : Nat) (o : Mo) (id : ByteArray) (qty price : Int) : (List Tr × Int) × Sd :=
  if (inB qty 1 1099511627776 && inB price 1 1099511627776) = false then (([], 2), S)
  else if price = o.price ∧ qty ≤ o.left then (([], 0), S.put sd ((S.at sd).set k { o with left := qty }))
  else (((meetM sd (S.put sd (cutAt k (S.at sd))) id qty price).1, 0), (meetM sd (S.put sd (cutAt k (S.at sd))) id qty price).2)
def repM (S : Sd) (id : ByteArray) (qty price : Int) : (List Tr × Int) × Sd :=
  match S.1[mIdx S.1 id]? with
  | some o => repAt S 0 (mIdx S.1 id) o id qty price
  | none => match S.2[mIdx S.2 id]? with
    | some o => repAt S 1 (mIdx S.2 id) o id qty price
    | none => (([], 42), S)
theorem set_flat (v : Int) : ∀ (l : List Mo) (k : Nat) (x : Mo), l[k]? = some x → (l.flatMap moC).set (k * 3 + 1) (.int .i64 v) = (l.set k { x with left := v }).flatMap moC
  | [], k, x, h => by simp at h
  | a :: l, 0, x, h => by
    simp only [List.getElem?_cons_zero, Option.some.injEq] at h
    subst h
    rfl
  | a :: l, k + 1, x, h => by
    have ih := set_flat v l k x (by simpa using h)
    have e : (k + 1) * 3 + 1 = (k * 3 + 1) + 3 := by omega
    rw [e]
    simp only [List.flatMap_cons, List.set_cons_succ, ← ih]
    simp [moC]
theorem own_at {V : World} {base g n c k : Nat} {x : Mo} {l : List Mo} (h : V.ownsRow base 122 3 (.slice (some ⟨g, 0, none⟩) n c) n (l.flatMap moC)) (hx : l[k]? = some x) (hl : l.length = n) :
    base ≤ g ∧ g < V.heap.size ∧ (∀ i, V.frozen? ⟨g, i, none⟩ = false) ∧ V.cell? ⟨g, k * 3, none⟩ = some (.string x.id) ∧ V.cell? ⟨g, k * 3 + 1, none⟩ = some (.int .i64 x.left) ∧ V.cell? ⟨g, k * 3 + 2, none⟩ = some (.int .i64 x.price) ∧
    ∀ v, (V.setCell ⟨g, k * 3 + 1, none⟩ (.int .i64 v)).ownsRow base 122 3 (.slice (some ⟨g, 0, none⟩) n c) n ((l.set k { x with left := v }).flatMap moC) := by
  have hk := (List.getElem?_eq_some_iff.1 hx).1
  obtain ⟨g', cur, hA, hb, hO, h1, h2, h3, h4⟩ := own_ob h (by omega)
  injection hA with hA
  injection hA with hA _ _
  subst hA
  have hcell : ∀ i v, (l.flatMap moC)[i]? = some v → V.cell? ⟨g, i, none⟩ = some v := fun i v hv => by
    rw [hO.cell i]
    rw [← h4, List.getElem?_take] at hv
    split at hv
    · exact hv
    · cases hv
  refine ⟨hb, hO.lt, hO.frozen, hcell _ _ (flat_at moC 3 moC_len l k 0 x hx (by omega)), hcell _ _ (flat_at moC 3 moC_len l k 1 x hx (by omega)), hcell _ _ (flat_at moC 3 moC_len l k 2 x hx (by omega)), fun v => ?_⟩
  exact ob_own hb (hO.set _ (.int .i64 v)) h1 h2 (by simpa using h3) (by rw [List.take_set, h4, set_flat v l k x hx])
theorem cut_sub {α : Type} (k : Nat) (l : List α) : (cutAt k l).Sublist l := by
  have h := ((List.Sublist.refl (l.take k)).append (List.drop_sublist_drop_left l (Nat.le_succ k)))
  rwa [List.take_append_drop] at h
theorem cut_le {α : Type} (k : Nat) (l : List α) : (cutAt k l).length ≤ l.length := (cut_sub k l).length_le
set_option maxHeartbeats 400000 in
theorem mo46_nil (w : World) (id : ByteArray) : Calls Try.prog 46 #[.pointer none, .string id] w fun e w' => e = .returned (.tuple #[.int .i64 0, .int .i64 1]) ∧ w = w' := by
  go_enter Try.func46, Try.ntmps46
  go_wp2
  go_ret2
  exact ⟨rfl, rfl⟩
set_option maxHeartbeats 400000 in
theorem mo47_nil (w : World) (id : ByteArray) (q p : Int) : Calls Try.prog 47 #[.pointer none, .string id, .int .i64 q, .int .i64 p] w fun e w' => e = .returned (.tuple #[.slice none 0 0, .int .i64 1]) ∧ w = w' := by
  go_enter Try.func47, Try.ntmps47
  go_wp2
  go_ret2
  exact ⟨rfl, rfl⟩
theorem del81 {base : Nat} {v : Value} {n : Nat} (k : Nat) (l : List Mo) (hk : k < n) (hn : n ≤ 1000) (V' : World) (hown : V'.ownsRow base 122 3 v n (l.flatMap moC)) :
    Calls Try.prog 81 #[v, .int .i64 k, .int .i64 ((k : Int) + 1)] V' fun e w' => DelP81 V' base v n k (l.flatMap moC) e w' := delete81 V' base v n k _ hown hk (mo_one l) (by omega)

set_option maxHeartbeats 1600000 in
set_option maxRecDepth 100000 in
theorem mo46_0 (w : World) (mb g n c k : Nat) (u : Value) (S : Sd) (h : MbAt w mb (.slice (some ⟨g, 0, none⟩) S.1.length c) (u) S) (hn : S.1.length = n) (hcn : S.1.length + S.2.length < 1000) (id : ByteArray) (o : Mo) (ho : S.1[k]? = some o) (hf : findM S id = (0, (k : Int))) :
    Calls Try.prog 46 #[.pointer (some ⟨mb, 0, none⟩), .string id] w fun e w' => e = .returned (.tuple #[.int .i64 o.left, .int .i64 0]) ∧ MbTo w mb (.slice (some ⟨g, 0, none⟩) S.1.length c) (u) (S.put 0 (cutAt k S.1)) w' := by
  have h73 := mo73 w mb _ _ S h id
  rw [hf] at h73
  have H := Lib.hid h
  have H73 := Lib.hid h73
  have HN := Lib.hid hn
  have HN9 := Lib.hid hcn
  have HO := Lib.hid ho
  have hk : k < n := by rw [← hn]; exact (List.getElem?_eq_some_iff.1 ho).1
  have hn9 : n ≤ 1000 := by omega
  clear h h73 hn hcn ho hf
  go_enter Try.func46, Try.ntmps46
  go_upto_region 6 with (go_at_call 73; refine H73.out.mono ?_; rintro e w' ⟨rfl, hb⟩)
  refine cutW (fun W => MbAt W mb (.slice (some ⟨g, 0, none⟩) S.1.length c) u S ∧ Below w.heap.size w W) ⟨H.out.below hb, hb⟩ ?_
  clear hb H73
  rintro W ⟨hW, hB⟩
  have hrow := hW.h0
  rw [HN.out] at hrow
  have hc0 : W.cell? ⟨mb, 0, none⟩ = some (.slice (some ⟨g, 0, none⟩) n c) := by rw [← HN.out]; exact hW.ho.cell 0
  obtain ⟨-, -, -, -, x1, -, -⟩ := own_at hrow HO.out HN.out
  have HW := Lib.hid hW
  have HB := Lib.hid hB
  clear hrow hW hB
  go_upto_region 7 with (fail)
  refine cutW (fun V => MbAt V mb (.slice (some ⟨g, 0, none⟩) S.1.length c) u S ∧ Below w.heap.size w V) ⟨HW.out, HB.out⟩ ?_
  clear hc0 HW HB x1 
  rintro V ⟨hV, hB⟩
  have hc0 : V.cell? ⟨mb, 0, none⟩ = some (.slice (some ⟨g, 0, none⟩) n c) := by rw [← HN.out]; exact hV.ho.cell 0
  have hrow := hV.h0
  rw [HN.out] at hrow
  have HRow := Lib.hid hrow
  have HOb := Lib.hid (own_block hrow)
  have HDel := fun V' => Lib.hid (del81 (base := mb + 1) (v := .slice (some ⟨g, 0, none⟩) n c) (n := n) k S.1 hk hn9 V')
  have HV := Lib.hid hV
  have HB := Lib.hid hB
  have hmb := hV.ho.lt
  have hw1 : IntKind.i64.wrap ((k : Int) + 1) = (k : Int) + 1 := by rw [IntWalk.i64_in _ (by omega)]
  clear hV hB hrow
  go_region_law
    (first
      | (go_simp
         go_at_call 81
         refine ((HDel _).out (own_mods HRow.out (Mods.refl (fun _ => False) V).drew (fun _ _ h => h))).mono ?_
         rintro e w6 ⟨v6, rfl, hown6, hg6, hat6⟩
         obtain ⟨A6, c6, hv6, -, -, -⟩ := own_shape hown6
         subst hv6
         have ho6 := (HV.out.ho.drew).grown hg6 (fun k hk => by have := HOb.out k hk; omega)
         have hc6 := ho6.cell
         have hz6 := ho6.frozen
         have hl6 := ho6.lt))
  have hput := HV.out.put 0 (by decide) (.slice A6 (n - 1) c6) (cutAt k S.1) (((Mods.refl (fun k => (if (0 : Nat) = 0 then (Value.slice (some ⟨g, 0, none⟩) S.1.length c) else (u : Value)).ownBlock = some k) V).drew).grown hg6 (fun k hk => .inl (by
    have e : (Value.slice (some ⟨g, 0, none⟩) S.1.length c).ownBlock = (Value.slice (some ⟨g, 0, none⟩) n c).ownBlock := rfl
    exact e.trans hk))) (by
    rw [delV_flat moC 3 moC_len] at hown6
    rw [cutAt_len (by rw [HN.out]; exact hk), HN.out]
    exact hown6) (fun k hk => by
    left; rw [hat6] at hk; exact hk) (by
    have := cut_le k S.1
    exact Nat.le_succ_of_le this) HN9.out
  have hto : MbTo w mb (.slice (some ⟨g, 0, none⟩) S.1.length c) u (S.put 0 (cutAt k S.1)) _ := MbTo.trans H.out (Below.mods_ HB.out _) (fun k hk => .inl hk) hput
  have HTo := Lib.hid hto
  clear hput hto hown6 hat6 hg6 ho6 HDel
  go_wp2_with fail
  go_ret2
  exact ⟨rfl, HTo.out⟩

set_option maxHeartbeats 1600000 in
set_option maxRecDepth 100000 in
theorem mo46_1 (w : World) (mb g n c k : Nat) (u : Value) (S : Sd) (h : MbAt w mb (u) (.slice (some ⟨g, 0, none⟩) S.2.length c) S) (hn : S.2.length = n) (hcn : S.1.length + S.2.length < 1000) (id : ByteArray) (o : Mo) (ho : S.2[k]? = some o) (hf : findM S id = (1, (k : Int))) :
    Calls Try.prog 46 #[.pointer (some ⟨mb, 0, none⟩), .string id] w fun e w' => e = .returned (.tuple #[.int .i64 o.left, .int .i64 0]) ∧ MbTo w mb (u) (.slice (some ⟨g, 0, none⟩) S.2.length c) (S.put 1 (cutAt k S.2)) w' := by
  have h73 := mo73 w mb _ _ S h id
  rw [hf] at h73
  have H := Lib.hid h
  have H73 := Lib.hid h73
  have HN := Lib.hid hn
  have HN9 := Lib.hid hcn
  have HO := Lib.hid ho
  have hk : k < n := by rw [← hn]; exact (List.getElem?_eq_some_iff.1 ho).1
  have hn9 : n ≤ 1000 := by omega
  clear h h73 hn hcn ho hf
  go_enter Try.func46, Try.ntmps46
  go_upto_region 6 with (go_at_call 73; refine H73.out.mono ?_; rintro e w' ⟨rfl, hb⟩)
  refine cutW (fun W => MbAt W mb u (.slice (some ⟨g, 0, none⟩) S.2.length c) S ∧ Below w.heap.size w W) ⟨H.out.below hb, hb⟩ ?_
  clear hb H73
  rintro W ⟨hW, hB⟩
  have hrow := hW.h1
  rw [HN.out] at hrow
  have hc0 : W.cell? ⟨mb, 1, none⟩ = some (.slice (some ⟨g, 0, none⟩) n c) := by rw [← HN.out]; exact hW.ho.cell 1
  obtain ⟨-, -, -, -, x1, -, -⟩ := own_at hrow HO.out HN.out
  have HW := Lib.hid hW
  have HB := Lib.hid hB
  clear hrow hW hB
  go_upto_region 7 with (fail)
  refine cutW (fun V => MbAt V mb u (.slice (some ⟨g, 0, none⟩) S.2.length c) S ∧ Below w.heap.size w V) ⟨HW.out, HB.out⟩ ?_
  clear hc0 HW HB x1 
  rintro V ⟨hV, hB⟩
  have hc0 : V.cell? ⟨mb, 1, none⟩ = some (.slice (some ⟨g, 0, none⟩) n c) := by rw [← HN.out]; exact hV.ho.cell 1
  have hrow := hV.h1
  rw [HN.out] at hrow
  have HRow := Lib.hid hrow
  have HOb := Lib.hid (own_block hrow)
  have HDel := fun V' => Lib.hid (del81 (base := mb + 1) (v := .slice (some ⟨g, 0, none⟩) n c) (n := n) k S.2 hk hn9 V')
  have HV := Lib.hid hV
  have HB := Lib.hid hB
  have hmb := hV.ho.lt
  have hw1 : IntKind.i64.wrap ((k : Int) + 1) = (k : Int) + 1 := by rw [IntWalk.i64_in _ (by omega)]
  clear hV hB hrow
  go_region_law
    (first
      | (go_simp
         go_at_call 81
         refine ((HDel _).out (own_mods HRow.out (Mods.refl (fun _ => False) V).drew (fun _ _ h => h))).mono ?_
         rintro e w6 ⟨v6, rfl, hown6, hg6, hat6⟩
         obtain ⟨A6, c6, hv6, -, -, -⟩ := own_shape hown6
         subst hv6
         have ho6 := (HV.out.ho.drew).grown hg6 (fun k hk => by have := HOb.out k hk; omega)
         have hc6 := ho6.cell
         have hz6 := ho6.frozen
         have hl6 := ho6.lt))
  have hput := HV.out.put 1 (by decide) (.slice A6 (n - 1) c6) (cutAt k S.2) (((Mods.refl (fun k => (if (1 : Nat) = 0 then (u : Value) else (Value.slice (some ⟨g, 0, none⟩) S.2.length c)).ownBlock = some k) V).drew).grown hg6 (fun k hk => .inl (by
    have e : (Value.slice (some ⟨g, 0, none⟩) S.2.length c).ownBlock = (Value.slice (some ⟨g, 0, none⟩) n c).ownBlock := rfl
    exact e.trans hk))) (by
    rw [delV_flat moC 3 moC_len] at hown6
    rw [cutAt_len (by rw [HN.out]; exact hk), HN.out]
    exact hown6) (fun k hk => by
    left; rw [hat6] at hk; exact hk) (by
    have := cut_le k S.2
    exact Nat.le_succ_of_le this) HN9.out
  have hto : MbTo w mb u (.slice (some ⟨g, 0, none⟩) S.2.length c) (S.put 1 (cutAt k S.2)) _ := MbTo.trans H.out (Below.mods_ HB.out _) (fun k hk => .inl hk) hput
  have HTo := Lib.hid hto
  clear hput hto hown6 hat6 hg6 ho6 HDel
  go_wp2_with fail
  go_ret2
  exact ⟨rfl, HTo.out⟩

set_option maxHeartbeats 3200000 in
set_option maxRecDepth 100000 in
theorem mo47_0 (w : World) (mb g n c k : Nat) (u : Value) (S : Sd) (h : MbAt w mb (.slice (some ⟨g, 0, none⟩) S.1.length c) (u) S) (hn : S.1.length = n) (hcn : S.1.length + S.2.length < 1000) (hok : MbOk S) (id : ByteArray) (qty price : Int) (o : Mo) (ho : S.1[k]? = some o) (hf : findM S id = (0, (k : Int))) :
    Calls Try.prog 47 #[.pointer (some ⟨mb, 0, none⟩), .string id, .int .i64 qty, .int .i64 price] w fun e w' => TrP w mb (.slice (some ⟨g, 0, none⟩) S.1.length c) (u) (repAt S 0 k o id qty price) e w' := by
  have h73 := mo73 w mb _ _ S h id
  rw [hf] at h73
  obtain ⟨R, hR⟩ : ∃ R, repAt S 0 k o id qty price = R := ⟨_, rfl⟩
  rw [hR]
  have HR := Lib.hid hR
  have H := Lib.hid h
  have H73 := Lib.hid h73
  have HN := Lib.hid hn
  have HN9 := Lib.hid hcn
  have HO := Lib.hid ho
  have HOK := Lib.hid hok
  have hk : k < n := by rw [← hn]; exact (List.getElem?_eq_some_iff.1 ho).1
  have hn9 : n ≤ 1000 := by omega
  clear h h73 hn hcn ho hf hR hok
  go_enter Try.func47, Try.ntmps47
  go_upto_region 6 with (go_at_call 73; refine H73.out.mono ?_; rintro e w' ⟨rfl, hb⟩)
  refine cutW (fun W => MbAt W mb (.slice (some ⟨g, 0, none⟩) S.1.length c) u S ∧ Below w.heap.size w W) ⟨H.out.below hb, hb⟩ ?_
  clear hb H73
  rintro W ⟨hW, hB⟩
  have hrow := hW.h0
  rw [HN.out] at hrow
  have hc0 : W.cell? ⟨mb, 0, none⟩ = some (.slice (some ⟨g, 0, none⟩) n c) := by rw [← HN.out]; exact hW.ho.cell 0
  obtain ⟨l1, l2, l3, -, x1, x2, hset⟩ := own_at hrow HO.out HN.out
  have HSet := Lib.hid hset
  have HW := Lib.hid hW
  have HB := Lib.hid hB
  clear hrow hW hB hset
  cases hin : (inB qty 1 1099511627776 && inB price 1 1099511627776) with
  | false =>
    have HR2 : Hid (R = (([], 2), S)) := Lib.hid (by rw [← HR.out]; unfold repAt; rw [if_pos hin])
    rcases (show inB qty 1 1099511627776 = false ∨ (inB qty 1 1099511627776 = true ∧ inB price 1 1099511627776 = false) by
      revert hin
      cases inB qty 1 1099511627776 <;> cases inB price 1 1099511627776 <;> decide) with g1 | ⟨g1, g2⟩
    all_goals
      clear hin x1 x2 hc0
      go_wp2_with (go_at_call 72; refine (mo72 _ _ _ _).mono ?_; rintro e w1 ⟨rfl, rfl⟩)
      go_ret2
      rw [HR2.out]
      exact TrP.err H.out HB.out _
  | true =>
  have hin2 := hin
  simp only [Bool.and_eq_true] at hin2
  obtain ⟨g1, g2⟩ := hin2
  have HQ := Lib.hid (inB_iff.1 g1)
  go_upto_region 9 with (go_at_call 72; refine (mo72 _ _ _ _).mono ?_; rintro e w1 ⟨rfl, rfl⟩)
  by_cases hp : price = o.price ∧ qty ≤ o.left
  · have HR2 : Hid (R = (([], 0), S.put 0 (S.1.set k { o with left := qty }))) := Lib.hid (by rw [← HR.out]; unfold repAt; rw [if_neg (by rw [hin]; decide), if_pos hp]; rfl)
    have hd1 : (price == o.price) = true := by simp [hp.1]
    have hd2 : decide (qty ≤ o.left) = true := by simp [hp.2]
    have hp1 : price = o.price := hp.1
    have hp2 : qty ≤ o.left := hp.2
    clear hin g1 g2 hp hp1
    go_wp2_with fail
    go_ret2
    rw [HR2.out]
    obtain ⟨q1, q2⟩ := HW.out.cell0 (g := g) (i := k * 3 + 1) (v := .int .i64 qty) (l := S.1.set k { o with left := qty }) rfl (by simp) (by
      have := HSet.out qty
      rw [List.length_set, HN.out]
      exact this)
    exact ⟨_, rfl, own_nil _ _ _ _, MbTo.trans H.out (Below.mods_ HB.out _) (fun k hk => .inl hk) ⟨_, _, q1, q2, fun k hk => .inl hk⟩⟩
  · have HR2 : Hid (R = (((meetM 0 (S.put 0 (cutAt k S.1)) id qty price).1, 0), (meetM 0 (S.put 0 (cutAt k S.1)) id qty price).2)) := Lib.hid (by rw [← HR.out]; unfold repAt; rw [if_neg (by rw [hin]; decide), if_neg hp]; rfl)
    have hM : ∀ (V : World) (w0 w1 : Value), MbAt V mb w0 w1 (S.put 0 (cutAt k S.1)) → Calls Try.prog 74 #[.pointer (some ⟨mb, 0, none⟩), .int .i64 1, .agg #[.string id, .int .i64 qty, .int .i64 price]] V fun e w' => ∃ v, e = .returned v ∧ w'.ownsRow (V.heap.size + 1) 108 4 v (meetM 0 (S.put 0 (cutAt k S.1)) id qty price).1.length ((meetM 0 (S.put 0 (cutAt k S.1)) id qty price).1.flatMap trC) ∧ MbTo V mb w0 w1 (meetM 0 (S.put 0 (cutAt k S.1)) id qty price).2 w' := fun V w0 w1 hV =>
      mo74_0 V mb w0 w1 _ hV id qty price HQ.out.1 HQ.out.2 HOK.out.b2 (List.Pairwise.sublist (cut_sub k S.1) HOK.out.s1) (by have := cut_le k S.1; have := HN9.out; simp only [Sd.put]; simp; omega)
    have HM := Lib.hid hM
    have HTr : Hid (∃ T, meetM 0 (S.put 0 (cutAt k S.1)) id qty price = T) := Lib.hid ⟨_, rfl⟩
    clear hM
    rcases (show (price == o.price) = false ∨ ((price == o.price) = true ∧ decide (qty ≤ o.left) = false) by
      by_cases h1 : price = o.price
      · right; exact ⟨by simp [h1], by simp; by_cases h2 : qty ≤ o.left; exact absurd ⟨h1, h2⟩ hp; omega⟩
      · left; simp [h1]) with hd1 | ⟨hd1, hd2⟩
    all_goals
      clear hin hp g1 g2
      go_upto_region 12 with (fail)
      refine cutW (fun V => MbAt V mb (.slice (some ⟨g, 0, none⟩) S.1.length c) u S ∧ Below w.heap.size w V) ⟨HW.out, HB.out⟩ ?_
      clear hc0 HW HB x1 x2 HSet l1 l2 l3
      rintro V ⟨hV, hB⟩
      have hc0 : V.cell? ⟨mb, 0, none⟩ = some (.slice (some ⟨g, 0, none⟩) n c) := by rw [← HN.out]; exact hV.ho.cell 0
      have hrow := hV.h0
      rw [HN.out] at hrow
      have HRow := Lib.hid hrow
      have HOb := Lib.hid (own_block hrow)
      have HDel := fun V' => Lib.hid (del81 (base := mb + 1) (v := .slice (some ⟨g, 0, none⟩) n c) (n := n) k S.1 hk hn9 V')
      have HV := Lib.hid hV
      have HB := Lib.hid hB
      have hmb := hV.ho.lt
      have hw1 : IntKind.i64.wrap ((k : Int) + 1) = (k : Int) + 1 := by rw [IntWalk.i64_in _ (by omega)]
      clear hV hB hrow
      go_region_law
        (first
          | (go_simp
             go_at_call 81
             refine ((HDel _).out (own_mods HRow.out (Mods.refl (fun _ => False) V).drew (fun _ _ h => h))).mono ?_
             rintro e w6 ⟨v6, rfl, hown6, hg6, hat6⟩
             obtain ⟨A6, c6, hv6, -, -, -⟩ := own_shape hown6
             subst hv6
             have ho6 := (HV.out.ho.drew).grown hg6 (fun k hk => by have := HOb.out k hk; omega)
             have hc6 := ho6.cell
             have hz6 := ho6.frozen
             have hl6 := ho6.lt))
      have hput := HV.out.put 0 (by decide) (.slice A6 (n - 1) c6) (cutAt k S.1) (((Mods.refl (fun k => (if (0 : Nat) = 0 then (Value.slice (some ⟨g, 0, none⟩) S.1.length c) else (u : Value)).ownBlock = some k) V).drew).grown hg6 (fun k hk => .inl (by
        have e : (Value.slice (some ⟨g, 0, none⟩) S.1.length c).ownBlock = (Value.slice (some ⟨g, 0, none⟩) n c).ownBlock := rfl
        exact e.trans hk))) (by
        rw [delV_flat moC 3 moC_len] at hown6
        rw [cutAt_len (by rw [HN.out]; exact hk), HN.out]
        exact hown6) (fun k hk => by
        left; rw [hat6] at hk; exact hk) (by
        have := cut_le k S.1
        exact Nat.le_succ_of_le this) HN9.out
      have hto : MbTo w mb (.slice (some ⟨g, 0, none⟩) S.1.length c) u (S.put 0 (cutAt k S.1)) _ := MbTo.trans H.out (Below.mods_ HB.out _) (fun k hk => .inl hk) hput
      have HTo := Lib.hid hto
      clear hput hto hown6 hat6 hg6 ho6 HDel
      go_upto_region 13 with (fail)
      refine cutW (fun V => ∃ w0 w1, MbAt V mb w0 w1 (S.put 0 (cutAt k S.1)) ∧ Mods (MbS mb (.slice (some ⟨g, 0, none⟩) S.1.length c) u) w V ∧ ∀ k, MbS mb w0 w1 k → MbS mb (.slice (some ⟨g, 0, none⟩) S.1.length c) u k ∨ w.heap.size ≤ k) HTo.out ?_
      clear HTo hc0
      rintro V2 ⟨w0, w1, hV2, hM2, hF2⟩
      have H74 := Lib.hid (HM.out V2 w0 w1 hV2)
      have HV2 := Lib.hid hV2
      have HM2 := Lib.hid hM2
      have HF2 := Lib.hid hF2
      have hs2 := hM2.size
      clear hV2 hM2 hF2 HM
      go_wp2_with (go_at_call 74; refine H74.out.mono ?_; rintro e w3 ⟨v, rfl, hown, hto⟩)
      go_ret2
      rw [HR2.out]
      exact ⟨v, rfl, own_base hown (by omega), MbTo.trans H.out HM2.out HF2.out hto⟩

set_option maxHeartbeats 3200000 in
set_option maxRecDepth 100000 in
theorem mo47_1 (w : World) (mb g n c k : Nat) (u : Value) (S : Sd) (h : MbAt w mb (u) (.slice (some ⟨g, 0, none⟩) S.2.length c) S) (hn : S.2.length = n) (hcn : S.1.length + S.2.length < 1000) (hok : MbOk S) (id : ByteArray) (qty price : Int) (o : Mo) (ho : S.2[k]? = some o) (hf : findM S id = (1, (k : Int))) :
    Calls Try.prog 47 #[.pointer (some ⟨mb, 0, none⟩), .string id, .int .i64 qty, .int .i64 price] w fun e w' => TrP w mb (u) (.slice (some ⟨g, 0, none⟩) S.2.length c) (repAt S 1 k o id qty price) e w' := by
  have h73 := mo73 w mb _ _ S h id
  rw [hf] at h73
  obtain ⟨R, hR⟩ : ∃ R, repAt S 1 k o id qty price = R := ⟨_, rfl⟩
  rw [hR]
  have HR := Lib.hid hR
  have H := Lib.hid h
  have H73 := Lib.hid h73
  have HN := Lib.hid hn
  have HN9 := Lib.hid hcn
  have HO := Lib.hid ho
  have HOK := Lib.hid hok
  have hk : k < n := by rw [← hn]; exact (List.getElem?_eq_some_iff.1 ho).1
  have hn9 : n ≤ 1000 := by omega
  clear h h73 hn hcn ho hf hR hok
  go_enter Try.func47, Try.ntmps47
  go_upto_region 6 with (go_at_call 73; refine H73.out.mono ?_; rintro e w' ⟨rfl, hb⟩)
  refine cutW (fun W => MbAt W mb u (.slice (some ⟨g, 0, none⟩) S.2.length c) S ∧ Below w.heap.size w W) ⟨H.out.below hb, hb⟩ ?_
  clear hb H73
  rintro W ⟨hW, hB⟩
  have hrow := hW.h1
  rw [HN.out] at hrow
  have hc0 : W.cell? ⟨mb, 1, none⟩ = some (.slice (some ⟨g, 0, none⟩) n c) := by rw [← HN.out]; exact hW.ho.cell 1
  obtain ⟨l1, l2, l3, -, x1, x2, hset⟩ := own_at hrow HO.out HN.out
  have HSet := Lib.hid hset
  have HW := Lib.hid hW
  have HB := Lib.hid hB
  clear hrow hW hB hset
  cases hin : (inB qty 1 1099511627776 && inB price 1 1099511627776) with
  | false =>
    have HR2 : Hid (R = (([], 2), S)) := Lib.hid (by rw [← HR.out]; unfold repAt; rw [if_pos hin])
    rcases (show inB qty 1 1099511627776 = false ∨ (inB qty 1 1099511627776 = true ∧ inB price 1 1099511627776 = false) by
      revert hin
      cases inB qty 1 1099511627776 <;> cases inB price 1 1099511627776 <;> decide) with g1 | ⟨g1, g2⟩
    all_goals
      clear hin x1 x2 hc0
      go_wp2_with (go_at_call 72; refine (mo72 _ _ _ _).mono ?_; rintro e w1 ⟨rfl, rfl⟩)
      go_ret2
      rw [HR2.out]
      exact TrP.err H.out HB.out _
  | true =>
  have hin2 := hin
  simp only [Bool.and_eq_true] at hin2
  obtain ⟨g1, g2⟩ := hin2
  have HQ := Lib.hid (inB_iff.1 g1)
  go_upto_region 9 with (go_at_call 72; refine (mo72 _ _ _ _).mono ?_; rintro e w1 ⟨rfl, rfl⟩)
  by_cases hp : price = o.price ∧ qty ≤ o.left
  · have HR2 : Hid (R = (([], 0), S.put 1 (S.2.set k { o with left := qty }))) := Lib.hid (by rw [← HR.out]; unfold repAt; rw [if_neg (by rw [hin]; decide), if_pos hp]; rfl)
    have hd1 : (price == o.price) = true := by simp [hp.1]
    have hd2 : decide (qty ≤ o.left) = true := by simp [hp.2]
    have hp1 : price = o.price := hp.1
    have hp2 : qty ≤ o.left := hp.2
    clear hin g1 g2 hp hp1
    go_wp2_with fail
    go_ret2
    rw [HR2.out]
    obtain ⟨q1, q2⟩ := HW.out.cell1 (g := g) (i := k * 3 + 1) (v := .int .i64 qty) (l := S.2.set k { o with left := qty }) rfl (by simp) (by
      have := HSet.out qty
      rw [List.length_set, HN.out]
      exact this)
    exact ⟨_, rfl, own_nil _ _ _ _, MbTo.trans H.out (Below.mods_ HB.out _) (fun k hk => .inl hk) ⟨_, _, q1, q2, fun k hk => .inl hk⟩⟩
  · have HR2 : Hid (R = (((meetM 1 (S.put 1 (cutAt k S.2)) id qty price).1, 0), (meetM 1 (S.put 1 (cutAt k S.2)) id qty price).2)) := Lib.hid (by rw [← HR.out]; unfold repAt; rw [if_neg (by rw [hin]; decide), if_neg hp]; rfl)
    have hM : ∀ (V : World) (w0 w1 : Value), MbAt V mb w0 w1 (S.put 1 (cutAt k S.2)) → Calls Try.prog 74 #[.pointer (some ⟨mb, 0, none⟩), .int .i64 2, .agg #[.string id, .int .i64 qty, .int .i64 price]] V fun e w' => ∃ v, e = .returned v ∧ w'.ownsRow (V.heap.size + 1) 108 4 v (meetM 1 (S.put 1 (cutAt k S.2)) id qty price).1.length ((meetM 1 (S.put 1 (cutAt k S.2)) id qty price).1.flatMap trC) ∧ MbTo V mb w0 w1 (meetM 1 (S.put 1 (cutAt k S.2)) id qty price).2 w' := fun V w0 w1 hV =>
      mo74_1 V mb w0 w1 _ hV id qty price HQ.out.1 HQ.out.2 HOK.out.b1 (List.Pairwise.sublist (cut_sub k S.2) HOK.out.s2) (by have := cut_le k S.2; have := HN9.out; simp only [Sd.put]; simp; omega)
    have HM := Lib.hid hM
    have HTr : Hid (∃ T, meetM 1 (S.put 1 (cutAt k S.2)) id qty price = T) := Lib.hid ⟨_, rfl⟩
    clear hM
    rcases (show (price == o.price) = false ∨ ((price == o.price) = true ∧ decide (qty ≤ o.left) = false) by
      by_cases h1 : price = o.price
      · right; exact ⟨by simp [h1], by simp; by_cases h2 : qty ≤ o.left; exact absurd ⟨h1, h2⟩ hp; omega⟩
      · left; simp [h1]) with hd1 | ⟨hd1, hd2⟩
    all_goals
      clear hin hp g1 g2
      go_upto_region 12 with (fail)
      refine cutW (fun V => MbAt V mb u (.slice (some ⟨g, 0, none⟩) S.2.length c) S ∧ Below w.heap.size w V) ⟨HW.out, HB.out⟩ ?_
      clear hc0 HW HB x1 x2 HSet l1 l2 l3
      rintro V ⟨hV, hB⟩
      have hc0 : V.cell? ⟨mb, 1, none⟩ = some (.slice (some ⟨g, 0, none⟩) n c) := by rw [← HN.out]; exact hV.ho.cell 1
      have hrow := hV.h1
      rw [HN.out] at hrow
      have HRow := Lib.hid hrow
      have HOb := Lib.hid (own_block hrow)
      have HDel := fun V' => Lib.hid (del81 (base := mb + 1) (v := .slice (some ⟨g, 0, none⟩) n c) (n := n) k S.2 hk hn9 V')
      have HV := Lib.hid hV
      have HB := Lib.hid hB
      have hmb := hV.ho.lt
      have hw1 : IntKind.i64.wrap ((k : Int) + 1) = (k : Int) + 1 := by rw [IntWalk.i64_in _ (by omega)]
      clear hV hB hrow
      go_region_law
        (first
          | (go_simp
             go_at_call 81
             refine ((HDel _).out (own_mods HRow.out (Mods.refl (fun _ => False) V).drew (fun _ _ h => h))).mono ?_
             rintro e w6 ⟨v6, rfl, hown6, hg6, hat6⟩
             obtain ⟨A6, c6, hv6, -, -, -⟩ := own_shape hown6
             subst hv6
             have ho6 := (HV.out.ho.drew).grown hg6 (fun k hk => by have := HOb.out k hk; omega)
             have hc6 := ho6.cell
             have hz6 := ho6.frozen
             have hl6 := ho6.lt))
      have hput := HV.out.put 1 (by decide) (.slice A6 (n - 1) c6) (cutAt k S.2) (((Mods.refl (fun k => (if (1 : Nat) = 0 then (u : Value) else (Value.slice (some ⟨g, 0, none⟩) S.2.length c)).ownBlock = some k) V).drew).grown hg6 (fun k hk => .inl (by
        have e : (Value.slice (some ⟨g, 0, none⟩) S.2.length c).ownBlock = (Value.slice (some ⟨g, 0, none⟩) n c).ownBlock := rfl
        exact e.trans hk))) (by
        rw [delV_flat moC 3 moC_len] at hown6
        rw [cutAt_len (by rw [HN.out]; exact hk), HN.out]
        exact hown6) (fun k hk => by
        left; rw [hat6] at hk; exact hk) (by
        have := cut_le k S.2
        exact Nat.le_succ_of_le this) HN9.out
      have hto : MbTo w mb u (.slice (some ⟨g, 0, none⟩) S.2.length c) (S.put 1 (cutAt k S.2)) _ := MbTo.trans H.out (Below.mods_ HB.out _) (fun k hk => .inl hk) hput
      have HTo := Lib.hid hto
      clear hput hto hown6 hat6 hg6 ho6 HDel
      go_upto_region 13 with (fail)
      refine cutW (fun V => ∃ w0 w1, MbAt V mb w0 w1 (S.put 1 (cutAt k S.2)) ∧ Mods (MbS mb u (.slice (some ⟨g, 0, none⟩) S.2.length c)) w V ∧ ∀ k, MbS mb w0 w1 k → MbS mb u (.slice (some ⟨g, 0, none⟩) S.2.length c) k ∨ w.heap.size ≤ k) HTo.out ?_
      clear HTo hc0
      rintro V2 ⟨w0, w1, hV2, hM2, hF2⟩
      have H74 := Lib.hid (HM.out V2 w0 w1 hV2)
      have HV2 := Lib.hid hV2
      have HM2 := Lib.hid hM2
      have HF2 := Lib.hid hF2
      have hs2 := hM2.size
      clear hV2 hM2 hF2 HM
      go_wp2_with (go_at_call 74; refine H74.out.mono ?_; rintro e w3 ⟨v, rfl, hown, hto⟩)
      go_ret2
      rw [HR2.out]
      exact ⟨v, rfl, own_base hown (by omega), MbTo.trans H.out HM2.out HF2.out hto⟩

theorem mo46 (w : World) (mb : Nat) (v0 v1 : Value) (S : Sd) (h : MbAt w mb v0 v1 S) (hcn : S.1.length + S.2.length < 1000) (id : ByteArray) :
    Calls Try.prog 46 #[.pointer (some ⟨mb, 0, none⟩), .string id] w fun e w' => e = .returned (.tuple #[.int .i64 (canM S id).1.1, .int .i64 (canM S id).1.2]) ∧ MbTo w mb v0 v1 (canM S id).2 w' := by
  rcases find_cases S id with ⟨o, h0, hf⟩ | ⟨o, h0, h1, hf⟩ | ⟨h0, h1, hf⟩
  · have e : canM S id = ((o.left, 0), S.put 0 (cutAt (mIdx S.1 id) S.1)) := by unfold canM; rw [h0]
    rw [e]
    obtain ⟨A, c, rfl, -, -, -⟩ := own_shape h.h0
    obtain ⟨g, cur, rfl, -⟩ := own_ob h.h0 (by have := (List.getElem?_eq_some_iff.1 h0).1; omega)
    exact mo46_0 w mb g _ c _ v1 S h rfl hcn id o h0 hf
  · have e : canM S id = ((o.left, 0), S.put 1 (cutAt (mIdx S.2 id) S.2)) := by unfold canM; rw [h0]; simp only; rw [h1]
    rw [e]
    obtain ⟨A, c, rfl, -, -, -⟩ := own_shape h.h1
    obtain ⟨g, cur, rfl, -⟩ := own_ob h.h1 (by have := (List.getElem?_eq_some_iff.1 h1).1; omega)
    exact mo46_1 w mb g _ c _ v0 S h rfl hcn id o h1 hf
  · have e : canM S id = ((0, 42), S) := by unfold canM; rw [h0]; simp only; rw [h1]
    rw [e]
    have h73 := mo73 w mb v0 v1 S h id
    rw [hf] at h73
    have H := Lib.hid h
    have H73 := Lib.hid h73
    clear e hf h73 h h0 h1
    go_enter Try.func46, Try.ntmps46
    go_wp2_with (go_at_call 73; refine H73.out.mono ?_; rintro e w' ⟨rfl, hb⟩)
    go_ret2
    exact ⟨rfl, MbTo.same H.out hb⟩
theorem mo47 (w : World) (mb : Nat) (v0 v1 : Value) (S : Sd) (h : MbAt w mb v0 v1 S) (hcn : S.1.length + S.2.length < 1000) (hok : MbOk S) (id : ByteArray) (qty price : Int) :
    Calls Try.prog 47 #[.pointer (some ⟨mb, 0, none⟩), .string id, .int .i64 qty, .int .i64 price] w fun e w' => TrP w mb v0 v1 (repM S id qty price) e w' := by
  rcases find_cases S id with ⟨o, h0, hf⟩ | ⟨o, h0, h1, hf⟩ | ⟨h0, h1, hf⟩
  · have e : repM S id qty price = repAt S 0 (mIdx S.1 id) o id qty price := by unfold repM; rw [h0]
    rw [e]
    obtain ⟨A, c, rfl, -, -, -⟩ := own_shape h.h0
    obtain ⟨g, cur, rfl, -⟩ := own_ob h.h0 (by have := (List.getElem?_eq_some_iff.1 h0).1; omega)
    exact mo47_0 w mb g _ c _ v1 S h rfl hcn hok id qty price o h0 hf
  · have e : repM S id qty price = repAt S 1 (mIdx S.2 id) o id qty price := by unfold repM; rw [h0]; simp only; rw [h1]
    rw [e]
    obtain ⟨A, c, rfl, -, -, -⟩ := own_shape h.h1
    obtain ⟨g, cur, rfl, -⟩ := own_ob h.h1 (by have := (List.getElem?_eq_some_iff.1 h1).1; omega)
    exact mo47_1 w mb g _ c _ v0 S h rfl hcn hok id qty price o h1 hf
  · have e : repM S id qty price = (([], 42), S) := by unfold repM; rw [h0]; simp only; rw [h1]
    rw [e]
    have h73 := mo73 w mb v0 v1 S h id
    rw [hf] at h73
    have H := Lib.hid h
    have H73 := Lib.hid h73
    clear e hf h73 h h0 h1
    go_enter Try.func47, Try.ntmps47
    go_wp2_with (go_at_call 73; refine H73.out.mono ?_; rintro e w' ⟨rfl, hb⟩)
    go_ret2
    exact TrP.err H.out hb _

end Go.Proofs.Ytjhlaifflhjafaa
