import Derived.Test.YtjhlaifflhjafaaNf
namespace Go.Proofs.Ytjhlaifflhjafaa
open Go.RowKit

/-- What holds of a book's two sides at all times (as far as the walks ask). -/
structure MbOk (S : Sd) : Prop where
  s1 : Srt 1 S.1
  s2 : Srt 2 S.2
  b1 : ∀ x ∈ S.1, 1 ≤ x.left ∧ x.left ≤ 1099511627776
  b2 : ∀ x ∈ S.2, 1 ≤ x.left ∧ x.left ≤ 1099511627776
def foundB (S : Sd) (id : ByteArray) : Bool := decide (0 ≤ (findM S id).2)
def okB (side qty price : Int) : Bool := inB side 1 2 && (inB qty 1 1099511627776 && inB price 1 1099511627776)
def addM (S : Sd) (id : ByteArray) (side qty price : Int) : (List Tr × Int) × Sd :=
  if nameB id = false then (([], 43), S)
  else if okB side qty price = false then (([], 2), S)
  else if foundB S id = true then (([], 41), S)
  else if 512 ≤ S.1.length + S.2.length then (([], 40), S)
  else (((meetM (side.toNat - 1) S id qty price).1, 0), (meetM (side.toNat - 1) S id qty price).2)
/-- How a call ends that tells trades and an error. -/
def TrP (w : World) (mb : Nat) (v0 v1 : Value) (r : (List Tr × Int) × Sd) (e : Ending) (w' : World) : Prop :=
  ∃ v, e = .returned (.tuple #[v, .int .i64 r.1.2]) ∧ w'.ownsRow (w.heap.size + 1) 108 4 v r.1.1.length (r.1.1.flatMap trC) ∧ MbTo w mb v0 v1 r.2 w'
theorem TrP.err {w w' : World} {mb : Nat} {v0 v1 : Value} {S : Sd} (h : MbAt w mb v0 v1 S) (hb : Below w.heap.size w w') (n : Int) : TrP w mb v0 v1 (([], n), S) (.returned (.tuple #[.slice none 0 0, .int .i64 n])) w' :=
  ⟨_, rfl, own_nil _ _ _ _, MbTo.same h hb⟩
theorem inB_iff {n a b : Int} : inB n a b = true ↔ a ≤ n ∧ n ≤ b := by unfold inB; simp
theorem okB_iff {s q p : Int} : okB s q p = true ↔ (1 ≤ s ∧ s ≤ 2) ∧ (1 ≤ q ∧ q ≤ 1099511627776) ∧ (1 ≤ p ∧ p ≤ 1099511627776) := by
  unfold okB; simp [inB_iff]
set_option maxHeartbeats 400000 in
theorem mo34_nil (w : World) (id : ByteArray) (side qty price : Int) : Calls Try.prog 34 #[.pointer none, .string id, .int .i64 side, .int .i64 qty, .int .i64 price] w fun e w' => e = .returned (.tuple #[.slice none 0 0, .int .i64 1]) ∧ w = w' := by
  go_enter Try.func34, Try.ntmps34
  go_wp2
  go_ret2
  exact ⟨rfl, rfl⟩

set_option maxHeartbeats 3200000 in
set_option maxRecDepth 100000 in
theorem mo34 (w : World) (mb : Nat) (v0 v1 : Value) (S : Sd) (h : MbAt w mb v0 v1 S) (hok : MbOk S) (id : ByteArray) (side qty price : Int) :
    Calls Try.prog 34 #[.pointer (some ⟨mb, 0, none⟩), .string id, .int .i64 side, .int .i64 qty, .int .i64 price] w fun e w' => TrP w mb v0 v1 (addM S id side qty price) e w' := by
  have H := Lib.hid h
  have HOK := Lib.hid hok
  have hv := fun W => kValid W id
  obtain ⟨nb, hnb⟩ : ∃ nb, nameB id = nb := ⟨_, rfl⟩
  rw [hnb] at hv
  have HV := Lib.hid hv
  clear h hok hv
  cases nb with
  | false =>
    have e : addM S id side qty price = (([], 43), S) := by unfold addM; rw [if_pos hnb]
    rw [e]
    clear e hnb
    go_enter Try.func34, Try.ntmps34
    go_wp2_with (go_at_call 16; refine (HV.out _).mono ?_; rintro e w1 ⟨rfl, hb1⟩)
    go_ret2
    exact TrP.err H.out hb1 _
  | true =>
  have e0 : addM S id side qty price = if okB side qty price = false then (([], 2), S)
    else if foundB S id = true then (([], 41), S)
    else if 512 ≤ S.1.length + S.2.length then (([], 40), S)
    else (((meetM (side.toNat - 1) S id qty price).1, 0), (meetM (side.toNat - 1) S id qty price).2) := by unfold addM; rw [if_neg (by rw [hnb]; decide)]
  rw [e0]
  clear e0 hnb
  have hokc : okB side qty price = (inB side 1 2 && (inB qty 1 1099511627776 && inB price 1 1099511627776)) := rfl
  have HOC := Lib.hid hokc
  clear hokc
  cases hb : okB side qty price with
  | false =>
    rw [if_pos rfl]
    rw [hb] at HOC
    go_enter Try.func34, Try.ntmps34
    go_upto_region 5 with (go_at_call 16; refine (HV.out _).mono ?_; rintro e w1 ⟨rfl, hb1⟩)
    refine cutW (fun W => MbAt W mb v0 v1 S ∧ Below w.heap.size w W) ⟨H.out.below hb1, hb1⟩ ?_
    clear hb1
    rintro W ⟨hW, hB⟩
    have HW := Lib.hid hW
    have HB := Lib.hid hB
    clear hW hB hb
    have hc := HOC.out
    clear HOC
    rcases (show inB side 1 2 = false ∨ (inB side 1 2 = true ∧ inB qty 1 1099511627776 = false) ∨ (inB side 1 2 = true ∧ inB qty 1 1099511627776 = true ∧ inB price 1 1099511627776 = false) by
      revert hc
      cases inB side 1 2 <;> cases inB qty 1 1099511627776 <;> cases inB price 1 1099511627776 <;> decide) with g1 | ⟨g1, g2⟩ | ⟨g1, g2, g3⟩
    all_goals
      clear hc
      go_wp2_with (go_at_call 72; refine (mo72 _ _ _ _).mono ?_; rintro e w1 ⟨rfl, rfl⟩)
      go_ret2
      exact TrP.err H.out HB.out _
  | true =>
  rw [if_neg (by decide)]
  have hin := okB_iff.1 hb
  have g1 : inB side 1 2 = true := inB_iff.2 hin.1
  have g2 : inB qty 1 1099511627776 = true := inB_iff.2 hin.2.1
  have g3 : inB price 1 1099511627776 = true := inB_iff.2 hin.2.2
  have HIN := Lib.hid hin
  clear hb hin HOC
  obtain ⟨R, hR⟩ : ∃ R, (if foundB S id = true then (([], 41), S) else if 512 ≤ S.1.length + S.2.length then (([], 40), S) else (((meetM (side.toNat - 1) S id qty price).1, 0), (meetM (side.toNat - 1) S id qty price).2) : (List Tr × Int) × Sd) = R := ⟨_, rfl⟩
  rw [hR]
  have HR := Lib.hid hR
  clear hR
  go_enter Try.func34, Try.ntmps34
  go_upto_region 5 with (go_at_call 16; refine (HV.out _).mono ?_; rintro e w1 ⟨rfl, hb1⟩)
  refine cutW (fun W => MbAt W mb v0 v1 S ∧ Below w.heap.size w W) ⟨H.out.below hb1, hb1⟩ ?_
  clear hb1
  rintro W ⟨hW, hB⟩
  have h73 := mo73 W mb v0 v1 S hW id
  have HW := Lib.hid hW
  have HB := Lib.hid hB
  have H73 := Lib.hid h73
  clear hW hB h73
  go_upto_region 8 with (first
    | (go_at_call 72; refine (mo72 _ _ _ _).mono ?_; rintro e w1 ⟨rfl, rfl⟩)
    | (go_at_call 73; refine H73.out.mono ?_; rintro e w1 ⟨rfl, hb1⟩))
  refine cutW (fun W => MbAt W mb v0 v1 S ∧ Below w.heap.size w W) ⟨HW.out.below hb1, HB.out.trans (hb1.mono HB.out.size)⟩ ?_
  clear hb1 HW HB H73
  rintro W2 ⟨hW, hB⟩
  have hcn := mo36 W2 mb v0 v1 S hW
  have HCN := Lib.hid hcn
  have HB := Lib.hid hB
  have HFD : Hid (foundB S id = decide (0 ≤ (findM S id).2)) := Lib.hid rfl
  clear hcn hB hW
  cases hf : foundB S id with
  | true =>
    have hR := HR.out
    rw [if_pos hf] at hR
    have HR2 := Lib.hid hR
    clear hR
    have hd0 := HFD.out
    rw [hf] at hd0
    have hd := hd0.symm
    clear hf hd0
    go_wp2_with fail
    go_ret2
    rw [← HR2.out]
    exact TrP.err H.out HB.out _
  | false =>
  have hR := HR.out
  rw [if_neg (by rw [hf]; decide)] at hR
  have hd0 := HFD.out
  rw [hf] at hd0
  have hd := hd0.symm
  clear hf hd0
  by_cases hn : 512 ≤ S.1.length + S.2.length
  · rw [if_pos hn] at hR
    have HR2 := Lib.hid hR
    clear hR
    have hd2 : decide ((512 : Int) ≤ ((S.1.length + S.2.length : Nat) : Int)) = true := by simp; omega
    generalize S.1.length + S.2.length = n at *
    go_wp2_with (go_at_call 36; refine HCN.out.mono ?_; rintro e w1 ⟨rfl, hb1⟩)
    go_ret2
    rw [← HR2.out]
    exact TrP.err H.out (HB.out.trans (hb1.mono HB.out.size)) _
  · rw [if_neg hn] at hR
    have HR2 := Lib.hid hR
    clear hR
    have HN : Hid (S.1.length + S.2.length < 1000) := Lib.hid (by omega)
    have hd2 : decide ((512 : Int) ≤ ((S.1.length + S.2.length : Nat) : Int)) = false := by simp; omega
    have hM : ∀ V, MbAt V mb v0 v1 S → Calls Try.prog 74 #[.pointer (some ⟨mb, 0, none⟩), .int .i64 side, .agg #[.string id, .int .i64 qty, .int .i64 price]] V fun e w' => ∃ v, e = .returned v ∧ w'.ownsRow (V.heap.size + 1) 108 4 v (meetM (side.toNat - 1) S id qty price).1.length ((meetM (side.toNat - 1) S id qty price).1.flatMap trC) ∧ MbTo V mb v0 v1 (meetM (side.toNat - 1) S id qty price).2 w' := fun V hV => by
      obtain ⟨⟨i1, i2⟩, ⟨i3, i4⟩, -⟩ := HIN.out
      rcases (show side = 1 ∨ side = 2 by omega) with rfl | rfl
      · exact mo74_0 V mb v0 v1 S hV id qty price i3 i4 HOK.out.b2 HOK.out.s1 HN.out
      · exact mo74_1 V mb v0 v1 S hV id qty price i3 i4 HOK.out.b1 HOK.out.s2 HN.out
    have HM := Lib.hid hM
    generalize S.1.length + S.2.length = n at *
    generalize meetM (side.toNat - 1) S id qty price = MM at *
    clear hM hn
    go_wp2_with (first
      | (go_at_call 36; refine HCN.out.mono ?_; rintro e w1 ⟨rfl, hb1⟩)
      | (go_at_call 74; refine (HM.out _ (H.out.below (HB.out.trans (hb1.mono HB.out.size)))).mono ?_; rintro e w3 ⟨v, rfl, hown, hto⟩))
    go_ret2
    have hB3 := HB.out.trans (hb1.mono HB.out.size)
    rw [← HR2.out]
    exact ⟨v, rfl, own_base hown (by have := hB3.size; omega), MbTo.trans H.out (Below.mods_ hB3 _) (fun k hk => .inl hk) hto⟩

end Go.Proofs.Ytjhlaifflhjafaa
