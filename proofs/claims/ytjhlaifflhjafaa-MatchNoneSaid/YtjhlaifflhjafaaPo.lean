import Derived.Test.YtjhlaifflhjafaaPn
namespace Go.Proofs.Ytjhlaifflhjafaa
section
open Go.RowKit

theorem plAt_new {w W : World} {mb rb : Nat} (hm : Ob W mb 99 [.slice none 0 0, .slice none 0 0]) (hr : Ob W rb 88 [.slice none 0 0]) (hne : mb ≠ rb) (hB : Below w.heap.size w W) (b1 : w.heap.size ≤ mb) (b2 : w.heap.size ≤ rb) : PlAt w W mb rb (.slice none 0 0) (.slice none 0 0) (.slice none 0 0) ([], []) [] :=
  ⟨⟨hm, own_nil _ _ _ _, own_nil _ _ _ _, (fun k hk => by cases hk), by simp⟩, ⟨hr, own_nil _ _ _ _, by simp⟩, (fun k hk hk2 => by
    rcases hk with rfl | hk | hk
    · rcases hk2 with h | h
      · exact hne h
      · cases h
    · cases hk
    · cases hk), hB, b1, b2⟩
/-- MatchPlays' loop. -/
def PyAt (w W : World) (mb rb : Nat) (S : Sd) (L : List Ro) : Prop := ∃ v0 v1 v, PlAt w W mb rb v0 v1 v S L
theorem PyAt.below {w W W' : World} {mb rb : Nat} {S : Sd} {L : List Ro} (h : PyAt w W mb rb S L) (hb : Below W.heap.size W W') : PyAt w W' mb rb S L := by
  obtain ⟨v0, v1, v, h1⟩ := h
  exact ⟨v0, v1, v, h1.below hb⟩
theorem PyAt.hB {w W : World} {mb rb : Nat} {S : Sd} {L : List Ro} (h : PyAt w W mb rb S L) : Below w.heap.size w W := by
  obtain ⟨v0, v1, v, h1⟩ := h
  exact h1.hB
theorem MbI.doX {S : Sd} (h : MbI S) (x : MOp) : MbI (doM S x).2 := h.do_ x

set_option maxHeartbeats 16000000 in
set_option maxRecDepth 100000 in
theorem matchPlays_walk (w : World) (A : Option Addr) (n c : Nat) (ops : List MOp) (hr : Rd w A n 5 (ops.flatMap maCells)) (hl : ops.length = n) :
    Calls Try.prog 11 #[.slice A n c] w fun e w' => e = .returned (.bool true) ∧ Below w.heap.size w w' := by
  have h9 := hr.2.1
  have HR := Lib.hid hr
  have HL := Lib.hid hl
  clear hr hl
  go_enter Try.func11, Try.ntmps11
  go_wp2_with fail
  refine (awake32 _).mono ?_
  rintro e w1 ⟨rfl, hb1⟩
  have hs1 := hb1.size
  go_wp2_with fail
  refine (few43 w1 A n c ops (HR.out.below hb1) HL.out 60).mono ?_
  obtain ⟨fb, hfb⟩ : ∃ fb, fewM ops 60 = fb := ⟨_, rfl⟩
  rw [hfb]
  rintro e w2 ⟨rfl, hb2⟩
  have hB2 := hb1.trans (hb2.mono hs1)
  have HB2 := Lib.hid hB2
  have HFB := Lib.hid hfb
  clear hfb hb1 hb2 hB2
  cases fb with
  | false =>
    go_wp2_with fail
    go_ret
    exact ⟨rfl, HB2.out⟩
  | true =>
  have hs2 := HB2.out.size
  go_wp2_with fail
  refine (mo33 w2).mono ?_
  rintro e w3 ⟨rfl, hm3, hb3⟩
  have HM3 := Lib.hid hm3
  have HB3 := Lib.hid (HB2.out.trans (hb3.mono hs2))
  clear hm3 hb3 HB2
  generalize w2.heap.size = mb at *
  go_upto_region 6 with (fail)
  have hU : PyAt w (w3.alloc (.cells #[.slice none 0 0] 88)) mb w3.heap.size ([], []) [] :=
    ⟨_, _, _, plAt_new (HM3.out.ho.alloc _) (Ob.new w3 88 [.slice none 0 0]) (by have := HM3.out.ho.lt; omega) (HB3.out.alloc HB3.out.size _) hs2 HB3.out.size⟩
  refine cutW (fun W => PyAt w W mb w3.heap.size ([], []) []) hU ?_
  clear hU HM3 HB3
  generalize w3.heap.size = rb at *
  intro W hU
  have HU := Lib.hid hU
  clear hU
  go_wp2_with fail
  go_loopw [17] (fun i wx => ∃ (k : Nat) (S : Sd) (L : List Ro), k ≤ n ∧ i = .int .i64 k ∧ PyAt w wx mb rb S L ∧ MbI S ∧ RSim S L) (fun i _ => n - (intOf i).toNat)
  case atStart => exact ⟨0, _, _, by omega, rfl, HU.out, MbI.empty, RSim.empty⟩
  case round =>
    clear HU
    obtain ⟨k, S, L, hk, rfl, hU, hI, hS⟩ := hrel
    have HU := Lib.hid hU
    have HI := Lib.hid hI
    have HSm := Lib.hid hS
    clear hU hI hS
    by_cases hlt : k < n
    · obtain ⟨x, hx⟩ : ∃ x, ops[k]? = some x := ⟨_, List.getElem?_eq_getElem (by have := HL.out; omega)⟩
      obtain ⟨ga, off, hA, hbl, hcell⟩ := mop_cells HR.out hlt hx
      subst hA
      have hsz : x.2.1.size ≤ 100 := by
        have hf := HFB.out
        unfold fewM at hf
        simp only [Bool.and_eq_true] at hf
        have := List.all_eq_true.1 hf.1 x (List.mem_of_getElem? hx)
        simpa [okMa] using this
      have HSZ := Lib.hid hsz
      obtain ⟨kd, nm, sd, qt, pr⟩ := x
      have a : ∀ j, j < 5 → wr.cell? ⟨ga, off + k * 5 + j, none⟩ = [Value.int .i64 kd, .string nm, .int .i64 sd, .int .i64 qt, .int .i64 pr][j]? := fun j hj => (HU.out.hB.cell (p := ⟨ga, off + k * 5 + j, none⟩) hbl).trans (hcell j hj)
      have a0 : wr.cell? ⟨ga, off + k * 5, none⟩ = some (.int .i64 kd) := a 0 (by omega)
      have a1 : _ = some _ := a 1 (by omega)
      have a2 : _ = some _ := a 2 (by omega)
      have a3 : _ = some _ := a 3 (by omega)
      have a4 : _ = some _ := a 4 (by omega)
      clear hcell a hx hsz
      go_upto_region 9 with (fail)
      have hO := Ob.new wr 90 [.int .i64 kd, .string nm, .int .i64 sd, .int .i64 qt, .int .i64 pr]
      have hNU : ∀ v0 v1 v, PlAt w wr mb rb v0 v1 v S L → (∀ q, MbS mb v0 v1 q → q ≠ wr.heap.size) ∧ (∀ q, RbS rb v q → q ≠ wr.heap.size) := fun v0 v1 v h => ⟨fun q hq e => by have := (h.m.lt hq).2; omega, fun q hq e => by have := (h.r.lt hq).2; omega⟩
      refine cutW (fun W => Ob W wr.heap.size 90 [.int .i64 kd, .string nm, .int .i64 sd, .int .i64 qt, .int .i64 pr] ∧ ∃ v0 v1 v, PlAt w W mb rb v0 v1 v S L ∧ (∀ q, MbS mb v0 v1 q → q ≠ wr.heap.size) ∧ (∀ q, RbS rb v q → q ≠ wr.heap.size)) ⟨hO, by
        obtain ⟨v0, v1, v, h1⟩ := HU.out
        exact ⟨v0, v1, v, h1.below Below.alloc_set, (hNU v0 v1 v h1).1, (hNU v0 v1 v h1).2⟩⟩ ?_
      clear hO HU hNU a0 a1 a2 a3 a4
      generalize wr.heap.size = N at *
      rintro V ⟨hO, v0, v1, v, hP, hn1, hn2⟩
      have hoc := hO.cell
      have hst := step44 w V mb rb v0 v1 v S L hP HI.out HSm.out kd nm HSZ.out sd qt pr
      have HST := Lib.hid hst
      have hI2 := HI.out.doX (kd, nm, sd, qt, pr)
      have hS2 := do_sim HSm.out (kd, nm, sd, qt, pr)
      have HI2 := Lib.hid hI2
      have HS2 := Lib.hid hS2
      have HN := Lib.hid hO.lt
      generalize (doM S (kd, nm, sd, qt, pr)).2 = S2 at *
      generalize doR L (kd, nm, sd, qt, pr) = L2 at *
      have HNu : Hid (¬ PlS mb rb v0 v1 v N) := Lib.hid (fun h => h.elim (fun h => hn1 N h rfl) (fun h => hn2 N h rfl))
      have HOb := Lib.hid hO
      clear hn1 hn2 hO hP hI2 hS2 hst HI HSm
      go_wp2_with fail
      refine HST.out.mono ?_
      rintro e V1 ⟨rfl, ⟨u0, u1, u, hP1⟩, hM1⟩
      have hoc1 := (HOb.out.mods hM1 HNu.out).cell
      have htd := told45 w V1 mb rb u0 u1 u S2 L2 hP1 HI2.out HS2.out kd nm sd qt pr
      have HTD := Lib.hid htd
      clear hoc hP1 hM1 htd HST HOb
      go_wp2_with (go_at_call 45; refine HTD.out.mono ?_; rintro e V2 ⟨rfl, hP2, -⟩)
      go_roundw
      case rel => exact ⟨k + 1, S2, L2, by omega, by go_num, hP2, HI2.out, HS2.out⟩
      case measure => simp [intOf]; omega
    · obtain rfl : k = n := by omega
      go_wp2_with fail
      go_ret
      exact ⟨rfl, HU.out.hB⟩
end

section
open Go.RowKit

set_option maxHeartbeats 6400000 in
set_option maxRecDepth 100000 in
theorem matchNone_walk (w : World) (kd : Int) (nm : ByteArray) (sd qt pr : Int) :
    Calls Try.prog 12 #[.agg #[.int .i64 kd, .string nm, .int .i64 sd, .int .i64 qt, .int .i64 pr]] w fun e w' => e = .returned (.bool true) ∧ Below w.heap.size w w' := by
  have wr0 : IntKind.i64.wrap 0 = 0 := by rfl
  go_enter Try.func12, Try.ntmps12
  go_upto_region 1 with (fail)
  have hO := Ob.new w 90 [.int .i64 kd, .string nm, .int .i64 sd, .int .i64 qt, .int .i64 pr]
  refine cutW (fun V => Ob V w.heap.size 90 [.int .i64 kd, .string nm, .int .i64 sd, .int .i64 qt, .int .i64 pr] ∧ Below w.heap.size w V) ⟨hO, Below.alloc_set⟩ ?_
  clear hO
  rintro V ⟨hO, hB⟩
  have HO := Lib.hid hO
  have HB := Lib.hid hB
  clear hO hB
  obtain ⟨N, hN⟩ : ∃ N, w.heap.size = N := ⟨_, rfl⟩
  rw [hN] at HO ⊢
  have HN := Lib.hid hN
  clear hN
  go_wp2_with fail
  refine (awake32 _).mono ?_
  rintro e w1 ⟨rfl, hb1⟩
  have hO1 := HO.out.below hb1 HO.out.lt
  have HB1 := Lib.hid (HB.out.trans (hb1.mono HB.out.size))
  have hoc := hO1.cell
  have HO1 := Lib.hid hO1
  clear hO1 HB HO hb1
  have hfew : ∀ W : World, Ob W (w1.heap.size) 90 [.int .i64 kd, .string nm, .int .i64 sd, .int .i64 qt, .int .i64 pr] → Calls Try.prog 43 #[.slice (some ⟨w1.heap.size, 0, none⟩) 1 1, .int .i64 1] W fun e w' => e = .returned (.bool (fewM [(kd, nm, sd, qt, pr)] 1)) ∧ Below W.heap.size W w' := fun W hW =>
    few43 W (some ⟨w1.heap.size, 0, none⟩) 1 1 [(kd, nm, sd, qt, pr)] ⟨rfl, by omega, fun _ => ⟨w1.heap.size, 0, rfl, hW.lt, fun j u hu => by rw [Nat.zero_add, hW.cell j]; exact hu⟩⟩ rfl 1
  have Hfew := Lib.hid (hfew _ (Ob.new w1 90 [.int .i64 kd, .string nm, .int .i64 sd, .int .i64 qt, .int .i64 pr]))
  clear hfew
  obtain ⟨fb, hfb⟩ : ∃ fb, fewM [(kd, nm, sd, qt, pr)] 1 = fb := ⟨_, rfl⟩
  rw [hfb] at Hfew
  have HFB := Lib.hid hfb
  clear hfb
  go_wp2_with fail
  refine Hfew.out.mono ?_
  rintro e w2 ⟨rfl, hb2⟩
  have hb2' : Below w1.heap.size w1 w2 := (Below.alloc_set).trans (hb2.mono (by simp))
  have hO2 := HO1.out.below hb2' HO1.out.lt
  have HB2 := Lib.hid (HB1.out.trans (hb2'.mono HB1.out.size))
  have hoc2 := hO2.cell
  have HO2 := Lib.hid hO2
  clear hoc hO2 HB1 HO1 hb2 hb2' Hfew
  cases fb with
  | false =>
    go_wp2_with fail
    go_ret
    exact ⟨rfl, HB2.out⟩
  | true =>
  have hsz : nm.size ≤ 100 := by
    have hf := HFB.out
    unfold fewM at hf
    simp only [Bool.and_eq_true] at hf
    have := List.all_eq_true.1 hf.1 _ (List.mem_cons_self ..)
    simpa [okMa] using this
  have HSZ := Lib.hid hsz
  clear hsz HFB
  have h34 := mo34_nil
  have h46 := mo46_nil
  have h47 := mo47_nil
  have h48 := mo48_nil
  have H34 := Lib.hid h34
  have H46 := Lib.hid h46
  have H47 := Lib.hid h47
  have H48 := Lib.hid h48
  clear h34 h46 h47 h48
  go_upto_region 10 with (first
    | (go_at_call 34; refine (H34.out _ _ _ _ _).mono ?_; rintro e w3 ⟨rfl, rfl⟩)
    | (go_at_call 46; refine (H46.out _ _).mono ?_; rintro e w3 ⟨rfl, rfl⟩)
    | (go_at_call 47; refine (H47.out _ _ _ _).mono ?_; rintro e w3 ⟨rfl, rfl⟩)
    | (go_at_call 48; refine (H48.out _ _).mono ?_; rintro e w3 ⟨rfl, rfl⟩))
  have H36 : Hid (∀ V, Calls Try.prog 36 #[.pointer none] V fun e w' => e = .returned (.int .i64 0) ∧ w' = V) := Lib.hid (fun V => (mo36_nil V).mono fun _ _ ⟨a, b⟩ => ⟨a, b.symm⟩)
  have H49 : Hid (∀ V, Calls Try.prog 49 #[.pointer none, .int .i64 sd] V fun e w' => e = .returned (.slice none 0 0) ∧ w' = V) := Lib.hid (fun V => (mo49_nil V sd).mono fun _ _ ⟨a, b⟩ => ⟨a, b.symm⟩)
  go_quiet ((first | (go_at_call 36; exact Calls.quiet_of_same (H36.out _)) | (go_at_call 49; exact Calls.quiet_of_same (H49.out _))))
  go_upto_region 12 with (fail)
  refine cutW (fun X => Ob X N 90 [.int .i64 kd, .string nm, .int .i64 sd, .int .i64 qt, .int .i64 pr] ∧ Below w.heap.size w X) ⟨HO2.out.drewN _, Below.drewN HB2.out _⟩ ?_
  clear hoc2 HO2 HB2 H34 H46 H47 H48 H36 H49
  rintro X ⟨hO, hB⟩
  have hP : PlAt w ((X.alloc (.cells #[.slice none 0 0, .slice none 0 0] 99)).alloc (.cells #[.slice none 0 0] 88)) X.heap.size (X.heap.size + 1) (.slice none 0 0) (.slice none 0 0) (.slice none 0 0) ([], []) [] :=
    plAt_new ((Ob.new X 99 [.slice none 0 0, .slice none 0 0]).alloc _) (Ob.new2 X _ 88 [.slice none 0 0]) (by omega) ((hB.alloc hB.size _).alloc (by have := hB.size; simp; omega) _) hB.size (by have := hB.size; omega)
  have hst := step44 w _ _ _ _ _ _ _ _ hP MbI.empty RSim.empty kd nm HSZ.out sd qt pr
  have hO3 := ((hO.alloc (.cells #[.slice none 0 0, .slice none 0 0] 99)).alloc (.cells #[.slice none 0 0] 88))
  have hoc3 := hO3.cell
  have HST := Lib.hid hst
  clear hO hB hP hst hO3
  go_wp2_with fail
  refine HST.out.mono ?_
  rintro e W' ⟨rfl, ⟨u0, u1, u, hP2⟩, -⟩
  have HB3 := Lib.hid hP2.hB
  clear hP2 hoc3 HST
  go_wp2_with fail
  go_ret
  exact ⟨rfl, HB3.out⟩
end

end Go.Proofs.Ytjhlaifflhjafaa
