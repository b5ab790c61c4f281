import Derived.Test.YtjhlaifflhjafaaNb
import Derived.Test.YtjhlaifflhjafaaMe
import Derived.Deep.RegionLaw
namespace Go.Proofs.Ytjhlaifflhjafaa
open Go.RowKit

theorem MbAt.own {w : World} {mb : Nat} {v0 v1 : Value} {S : Sd} (h : MbAt w mb v0 v1 S) (i : Nat) : w.ownsRow (mb + 1) 122 3 (if i = 0 then v0 else v1) (S.at i).length ((S.at i).flatMap moC) := by
  unfold Sd.at
  split
  · exact h.h0
  · exact h.h1
theorem ins99 {base : Nat} {v : Value} {n : Nat} (K : Nat) (l : List Mo) (o : Mo) (hK : K ≤ n) (hn : n ≤ 1000) (V' : World) (gv : Nat) (hown : V'.ownsRow base 122 3 v n (l.flatMap moC)) (hob : Ob V' gv 122 (moC o)) (hne : ∀ k, v.ownBlock = some k → gv ≠ k) (hb : base ≤ V'.heap.size) :
    Calls Try.prog 99 #[v, .int .i64 K, .slice (some ⟨gv, 0, none⟩) 1 1] V' fun e w' => InsP99 V' base v n K (l.flatMap moC) (moC o) e w' :=
  insert99 V' base v n K _ _ hown hK gv hob hne rfl (moC_one o) (mo_one l) (by omega) hb

set_option maxHeartbeats 3200000 in
set_option maxRecDepth 100000 in
theorem mo91_0 (w : World) (mb : Nat) (A : Option Addr) (n c : Nat) (u : Value) (S : Sd) (h : MbAt w mb (.slice A n c) u S) (hnl : S.1.length = n) (hn9 : S.1.length + S.2.length < 1000) (o : Mo) (K : Nat) (hK : K ≤ n)
    (h0 : ∀ j x, j < K → S.1[j]? = some x → btr 1 o.price x.price = false) (h1 : ∀ j x, K ≤ j → S.1[j]? = some x → btr 1 o.price x.price = true) :
    Calls Try.prog 91 #[.pointer (some ⟨mb, 0, none⟩), .int .i64 1, .agg #[.string o.id, .int .i64 o.left, .int .i64 o.price]] w fun e w' => e = .returned (.tuple #[]) ∧ MbTo w mb (.slice A n c) u (S.put 0 (putAt K o S.1)) w' := by
  have hO := Ob.new w 122 (moC o)
  have hwl := h.ho.lt
  have H := Lib.hid h
  have HO := Lib.hid hO
  have H0 := Lib.hid h0
  have H1 := Lib.hid h1
  have HN := Lib.hid hnl
  have HN9 := Lib.hid hn9
  have hn1 : n ≤ 1000 := by omega
  clear h hO h0 h1 hnl hn9
  go_enter Try.func91, Try.ntmps91
  go_upto_region 1 with (fail)
  refine cutW (fun W => MbAt W mb (.slice A n c) u S ∧ Ob W w.heap.size 122 (moC o) ∧ Below w.heap.size w W) ⟨H.out.below Below.alloc_set, HO.out, Below.alloc_set⟩ ?_
  clear HO
  rintro W ⟨h, hO, hB⟩
  have hc := h.ho.cell
  have y2 : W.cell? ⟨w.heap.size, 2, none⟩ = some (.int .i64 o.price) := hO.cell 2
  have HB := Lib.hid hB
  have HW := Lib.hid h
  have HO := Lib.hid hO
  clear h hO hB
  go_wp2_with fail
  clear hc y2
  go_loopw [7] (fun i wr => ∃ k : Nat, K ≤ k ∧ k ≤ n ∧ i = .int .i64 k ∧ MbAt wr mb (.slice A n c) u S ∧ Ob wr w.heap.size 122 (moC o) ∧ Below w.heap.size w wr) (fun i _ => (intOf i).toNat)
  case atStart => exact ⟨n, hK, Nat.le_refl _, rfl, HW.out, HO.out, HB.out⟩
  case round =>
    obtain ⟨k, hk1, hk2, rfl, h, hO, hB⟩ := hrel
    have hc := h.ho.cell
    have y2 : wr.cell? ⟨w.heap.size, 2, none⟩ = some (.int .i64 o.price) := hO.cell 2
    obtain ⟨A', c', hv', hRd, -, -⟩ := own_shape h.h0
    rw [HN.out] at hv' hRd
    injection hv' with e1 _ e3
    subst e1; subst e3
    have HR := Lib.hid hRd
    have HB := Lib.hid hB
    have HW := Lib.hid h
    have HO := Lib.hid hO
    clear h hO hB hRd
    by_cases hk0 : k = 0
    · subst hk0
      obtain rfl : K = 0 := by omega
      have hd : decide (((0 : Nat) : Int) > 0) = false := by decide
      go_upto_region 3 with (fail)
      go_quiet (fail)
      go_upto_region 5 with (fail)
      refine cutW (fun V => MbAt V mb (.slice A n c) u S ∧ Ob V w.heap.size 122 (moC o) ∧ Below w.heap.size w V) ⟨HW.out.mods ((Mods.refl (fun _ => False) wr).drewN _) (fun _ _ => id), HO.out.drewN _, Below.drewN HB.out _⟩ ?_
      rintro V ⟨h, hO, hB⟩
      have y0 : V.cell? ⟨w.heap.size, 0, none⟩ = some (.string o.id) := hO.cell 0
      have y1 : V.cell? ⟨w.heap.size, 1, none⟩ = some (.int .i64 o.left) := hO.cell 1
      have y3 : V.cell? ⟨w.heap.size, 2, none⟩ = some (.int .i64 o.price) := hO.cell 2
      have hown := h.h0
      rw [HN.out] at hown
      have HI := fun V' gv => Lib.hid (ins99 (base := mb + 1) (v := .slice A n c) (n := n) 0 S.1 o hK hn1 V' gv)
      have hob := own_block hown
      have hol := own_lt hown
      have HOb := Lib.hid hob
      have HOl := Lib.hid hol
      have HOw := Lib.hid hown
      have HV := Lib.hid h
      have HBV := Lib.hid hB
      have hmb := h.ho.lt
      have wr0 : IntKind.i64.wrap 0 = 0 := by rfl
      clear h hO hB hown hob hol HB HW HO y2 hc HR
      go_region_law
        (first
          | (go_simp
             go_at_call 99
             refine ((HI _ _).out (own_mods HOw.out (((Mods.refl (fun _ => False) V).alloc _).drew) (fun _ _ => id)) (Ob.new V 122 [.string o.id, .int .i64 o.left, .int .i64 o.price]).drew (fun k hk => by have := HOl.out k hk; omega) (by simp; omega)).mono ?_
             rintro e w6 ⟨v6, rfl, hown6, hg6, hat6⟩
             obtain ⟨A6, c6, hv6, -, -, -⟩ := own_shape hown6
             subst hv6
             have ho6 := ((HV.out.ho.alloc (.cells #[.string o.id, .int .i64 o.left, .int .i64 o.price] 122)).drew).grown hg6 (fun k hk => by have := HOb.out k hk; omega)
             have hc6 := ho6.cell
             have hz6 := ho6.frozen
             have hl6 := ho6.lt))
      go_wp2_with fail
      go_end0
      have hput := HV.out.put 0 (by decide) (.slice A6 (n + 1) c6) (putAt 0 o S.1) ((((Mods.refl (fun k => (if (0 : Nat) = 0 then (Value.slice A n c) else u).ownBlock = some k) V).alloc (.cells #[.string o.id, .int .i64 o.left, .int .i64 o.price] 122)).drew).grown hg6 (fun k hk => .inl hk)) (by
        rw [putAt_len (by rw [HN.out]; exact hK), HN.out]
        rw [insV_flat moC 3 moC_len] at hown6
        exact hown6) (fun k hk => by
        rcases hat6 with h6 | ⟨k6, h6, h7⟩
        · left; rw [h6] at hk; exact hk
        · right
          rw [h6] at hk
          injection hk with hk
          simp at h7
          omega) (by rw [putAt_len (by rw [HN.out]; exact hK)]; exact Nat.le_refl _) HN9.out
      exact ⟨rfl, MbTo.trans H.out (Below.mods_ HBV.out _) (fun k hk => .inl hk) hput⟩
    obtain ⟨m, rfl⟩ : ∃ m, k = m + 1 := ⟨k - 1, by omega⟩
    have hd : decide (((m + 1 : Nat) : Int) > 0) = true := by simp
    have hw1 : IntKind.i64.wrap (m : Int) = (m : Int) := by rw [IntWalk.i64_in _ (by omega)]
    have hmn : m < n := by omega
    obtain ⟨x, hx⟩ : ∃ x, S.1[m]? = some x := ⟨_, List.getElem?_eq_getElem (by rw [HN.out]; omega)⟩
    obtain ⟨g, off, hA, hgl, hg⟩ := HR.out.2.2 (by omega)
    subst hA
    have x2 := hg _ _ (flat_at moC 3 moC_len S.1 m 2 x hx (by omega))
    rw [← Nat.add_assoc] at x2
    have x2 : wr.cell? ⟨g, off + m * 3 + 2, none⟩ = some (.int .i64 x.price) := x2
    by_cases hKk : K ≤ m
    · have hb := H1.out m x hKk hx
      have hcl : ∀ V, Calls Try.prog 98 #[.int .i64 1, .int .i64 o.price, .int .i64 x.price] V fun e w' => e = .returned (.bool true) ∧ w' = V := fun V => by rw [← hb]; exact (mo98 V 1 o.price x.price).mono fun _ _ ⟨a, b⟩ => ⟨a, b.symm⟩
      have HCL := Lib.hid hcl
      clear hb hcl hx hg
      go_upto_region 3 with (fail)
      go_quiet ((go_at_call 98; exact Calls.quiet_of_same (HCL.out _)))
      go_wp2_with fail
      go_roundw
      case rel => exact ⟨m, hKk, by omega, by go_num, HW.out.mods ((Mods.refl (fun _ => False) wr).drewN _) (fun _ _ => id), HO.out.drewN _, Below.drewN HB.out _⟩
      case measure => simp [intOf]
    · obtain rfl : K = m + 1 := by omega
      have hb := H0.out m x (by omega) hx
      have hcl : ∀ V, Calls Try.prog 98 #[.int .i64 1, .int .i64 o.price, .int .i64 x.price] V fun e w' => e = .returned (.bool false) ∧ w' = V := fun V => by rw [← hb]; exact (mo98 V 1 o.price x.price).mono fun _ _ ⟨a, b⟩ => ⟨a, b.symm⟩
      have HCL := Lib.hid hcl
      clear hb hcl hx hg
      go_upto_region 3 with (fail)
      go_quiet ((go_at_call 98; exact Calls.quiet_of_same (HCL.out _)))
      go_upto_region 5 with (fail)
      refine cutW (fun V => MbAt V mb (.slice (some ⟨g, off, none⟩) n c) u S ∧ Ob V w.heap.size 122 (moC o) ∧ Below w.heap.size w V) ⟨HW.out.mods ((Mods.refl (fun _ => False) wr).drewN _) (fun _ _ => id), HO.out.drewN _, Below.drewN HB.out _⟩ ?_
      rintro V ⟨h, hO, hB⟩
      have y0 : V.cell? ⟨w.heap.size, 0, none⟩ = some (.string o.id) := hO.cell 0
      have y1 : V.cell? ⟨w.heap.size, 1, none⟩ = some (.int .i64 o.left) := hO.cell 1
      have y3 : V.cell? ⟨w.heap.size, 2, none⟩ = some (.int .i64 o.price) := hO.cell 2
      have hown := h.h0
      rw [HN.out] at hown
      have HI := fun V' gv => Lib.hid (ins99 (base := mb + 1) (v := .slice (some ⟨g, off, none⟩) n c) (n := n) (m + 1) S.1 o hK hn1 V' gv)
      have hob := own_block hown
      have hol := own_lt hown
      have HOb := Lib.hid hob
      have HOl := Lib.hid hol
      have HOw := Lib.hid hown
      have HV := Lib.hid h
      have HBV := Lib.hid hB
      have hmb := h.ho.lt
      have wr0 : IntKind.i64.wrap 0 = 0 := by rfl
      clear h hO hB hown hob hol HB HW HO y2 hc HR
      go_region_law
        (first
          | (go_simp
             go_at_call 99
             refine ((HI _ _).out (own_mods HOw.out (((Mods.refl (fun _ => False) V).alloc _).drew) (fun _ _ => id)) (Ob.new V 122 [.string o.id, .int .i64 o.left, .int .i64 o.price]).drew (fun k hk => by have := HOl.out k hk; omega) (by simp; omega)).mono ?_
             rintro e w6 ⟨v6, rfl, hown6, hg6, hat6⟩
             obtain ⟨A6, c6, hv6, -, -, -⟩ := own_shape hown6
             subst hv6
             have ho6 := ((HV.out.ho.alloc (.cells #[.string o.id, .int .i64 o.left, .int .i64 o.price] 122)).drew).grown hg6 (fun k hk => by have := HOb.out k hk; omega)
             have hc6 := ho6.cell
             have hz6 := ho6.frozen
             have hl6 := ho6.lt))
      go_wp2_with fail
      go_end0
      have hput := HV.out.put 0 (by decide) (.slice A6 (n + 1) c6) (putAt (m + 1) o S.1) ((((Mods.refl (fun k => (if (0 : Nat) = 0 then (Value.slice (some ⟨g, off, none⟩) n c) else u).ownBlock = some k) V).alloc (.cells #[.string o.id, .int .i64 o.left, .int .i64 o.price] 122)).drew).grown hg6 (fun k hk => .inl hk)) (by
        rw [putAt_len (by rw [HN.out]; exact hK), HN.out]
        rw [insV_flat moC 3 moC_len] at hown6
        exact hown6) (fun k hk => by
        rcases hat6 with h6 | ⟨k6, h6, h7⟩
        · left; rw [h6] at hk; exact hk
        · right
          rw [h6] at hk
          injection hk with hk
          simp at h7
          omega) (by rw [putAt_len (by rw [HN.out]; exact hK)]; exact Nat.le_refl _) HN9.out
      exact ⟨rfl, MbTo.trans H.out (Below.mods_ HBV.out _) (fun k hk => .inl hk) hput⟩

set_option maxHeartbeats 3200000 in
set_option maxRecDepth 100000 in
theorem mo91_1 (w : World) (mb : Nat) (A : Option Addr) (n c : Nat) (u : Value) (S : Sd) (h : MbAt w mb u (.slice A n c) S) (hnl : S.2.length = n) (hn9 : S.1.length + S.2.length < 1000) (o : Mo) (K : Nat) (hK : K ≤ n)
    (h0 : ∀ j x, j < K → S.2[j]? = some x → btr 2 o.price x.price = false) (h1 : ∀ j x, K ≤ j → S.2[j]? = some x → btr 2 o.price x.price = true) :
    Calls Try.prog 91 #[.pointer (some ⟨mb, 0, none⟩), .int .i64 2, .agg #[.string o.id, .int .i64 o.left, .int .i64 o.price]] w fun e w' => e = .returned (.tuple #[]) ∧ MbTo w mb u (.slice A n c) (S.put 1 (putAt K o S.2)) w' := by
  have hO := Ob.new w 122 (moC o)
  have hwl := h.ho.lt
  have H := Lib.hid h
  have HO := Lib.hid hO
  have H0 := Lib.hid h0
  have H1 := Lib.hid h1
  have HN := Lib.hid hnl
  have HN9 := Lib.hid hn9
  have hn1 : n ≤ 1000 := by omega
  clear h hO h0 h1 hnl hn9
  go_enter Try.func91, Try.ntmps91
  go_upto_region 1 with (fail)
  refine cutW (fun W => MbAt W mb u (.slice A n c) S ∧ Ob W w.heap.size 122 (moC o) ∧ Below w.heap.size w W) ⟨H.out.below Below.alloc_set, HO.out, Below.alloc_set⟩ ?_
  clear HO
  rintro W ⟨h, hO, hB⟩
  have hc := h.ho.cell
  have y2 : W.cell? ⟨w.heap.size, 2, none⟩ = some (.int .i64 o.price) := hO.cell 2
  have HB := Lib.hid hB
  have HW := Lib.hid h
  have HO := Lib.hid hO
  clear h hO hB
  go_wp2_with fail
  clear hc y2
  go_loopw [7] (fun i wr => ∃ k : Nat, K ≤ k ∧ k ≤ n ∧ i = .int .i64 k ∧ MbAt wr mb u (.slice A n c) S ∧ Ob wr w.heap.size 122 (moC o) ∧ Below w.heap.size w wr) (fun i _ => (intOf i).toNat)
  case atStart => exact ⟨n, hK, Nat.le_refl _, rfl, HW.out, HO.out, HB.out⟩
  case round =>
    obtain ⟨k, hk1, hk2, rfl, h, hO, hB⟩ := hrel
    have hc := h.ho.cell
    have y2 : wr.cell? ⟨w.heap.size, 2, none⟩ = some (.int .i64 o.price) := hO.cell 2
    obtain ⟨A', c', hv', hRd, -, -⟩ := own_shape h.h1
    rw [HN.out] at hv' hRd
    injection hv' with e1 _ e3
    subst e1; subst e3
    have HR := Lib.hid hRd
    have HB := Lib.hid hB
    have HW := Lib.hid h
    have HO := Lib.hid hO
    clear h hO hB hRd
    by_cases hk0 : k = 0
    · subst hk0
      obtain rfl : K = 0 := by omega
      have hd : decide (((0 : Nat) : Int) > 0) = false := by decide
      go_upto_region 3 with (fail)
      go_quiet (fail)
      go_upto_region 5 with (fail)
      refine cutW (fun V => MbAt V mb u (.slice A n c) S ∧ Ob V w.heap.size 122 (moC o) ∧ Below w.heap.size w V) ⟨HW.out.mods ((Mods.refl (fun _ => False) wr).drewN _) (fun _ _ => id), HO.out.drewN _, Below.drewN HB.out _⟩ ?_
      rintro V ⟨h, hO, hB⟩
      have y0 : V.cell? ⟨w.heap.size, 0, none⟩ = some (.string o.id) := hO.cell 0
      have y1 : V.cell? ⟨w.heap.size, 1, none⟩ = some (.int .i64 o.left) := hO.cell 1
      have y3 : V.cell? ⟨w.heap.size, 2, none⟩ = some (.int .i64 o.price) := hO.cell 2
      have hown := h.h1
      rw [HN.out] at hown
      have HI := fun V' gv => Lib.hid (ins99 (base := mb + 1) (v := .slice A n c) (n := n) 0 S.2 o hK hn1 V' gv)
      have hob := own_block hown
      have hol := own_lt hown
      have HOb := Lib.hid hob
      have HOl := Lib.hid hol
      have HOw := Lib.hid hown
      have HV := Lib.hid h
      have HBV := Lib.hid hB
      have hmb := h.ho.lt
      have wr1 : IntKind.i64.wrap 1 = 1 := by rfl
      clear h hO hB hown hob hol HB HW HO y2 hc HR
      go_region_law
        (first
          | (go_simp
             go_at_call 99
             refine ((HI _ _).out (own_mods HOw.out (((Mods.refl (fun _ => False) V).alloc _).drew) (fun _ _ => id)) (Ob.new V 122 [.string o.id, .int .i64 o.left, .int .i64 o.price]).drew (fun k hk => by have := HOl.out k hk; omega) (by simp; omega)).mono ?_
             rintro e w6 ⟨v6, rfl, hown6, hg6, hat6⟩
             obtain ⟨A6, c6, hv6, -, -, -⟩ := own_shape hown6
             subst hv6
             have ho6 := ((HV.out.ho.alloc (.cells #[.string o.id, .int .i64 o.left, .int .i64 o.price] 122)).drew).grown hg6 (fun k hk => by have := HOb.out k hk; omega)
             have hc6 := ho6.cell
             have hz6 := ho6.frozen
             have hl6 := ho6.lt))
      go_wp2_with fail
      go_end0
      have hput := HV.out.put 1 (by decide) (.slice A6 (n + 1) c6) (putAt 0 o S.2) ((((Mods.refl (fun k => (if (1 : Nat) = 0 then u else (Value.slice A n c)).ownBlock = some k) V).alloc (.cells #[.string o.id, .int .i64 o.left, .int .i64 o.price] 122)).drew).grown hg6 (fun k hk => .inl hk)) (by
        rw [putAt_len (by rw [HN.out]; exact hK), HN.out]
        rw [insV_flat moC 3 moC_len] at hown6
        exact hown6) (fun k hk => by
        rcases hat6 with h6 | ⟨k6, h6, h7⟩
        · left; rw [h6] at hk; exact hk
        · right
          rw [h6] at hk
          injection hk with hk
          simp at h7
          omega) (by rw [putAt_len (by rw [HN.out]; exact hK)]; exact Nat.le_refl _) HN9.out
      exact ⟨rfl, MbTo.trans H.out (Below.mods_ HBV.out _) (fun k hk => .inl hk) hput⟩
    obtain ⟨m, rfl⟩ : ∃ m, k = m + 1 := ⟨k - 1, by omega⟩
    have hd : decide (((m + 1 : Nat) : Int) > 0) = true := by simp
    have hw1 : IntKind.i64.wrap (m : Int) = (m : Int) := by rw [IntWalk.i64_in _ (by omega)]
    have hmn : m < n := by omega
    obtain ⟨x, hx⟩ : ∃ x, S.2[m]? = some x := ⟨_, List.getElem?_eq_getElem (by rw [HN.out]; omega)⟩
    obtain ⟨g, off, hA, hgl, hg⟩ := HR.out.2.2 (by omega)
    subst hA
    have x2 := hg _ _ (flat_at moC 3 moC_len S.2 m 2 x hx (by omega))
    rw [← Nat.add_assoc] at x2
    have x2 : wr.cell? ⟨g, off + m * 3 + 2, none⟩ = some (.int .i64 x.price) := x2
    by_cases hKk : K ≤ m
    · have hb := H1.out m x hKk hx
      have hcl : ∀ V, Calls Try.prog 98 #[.int .i64 2, .int .i64 o.price, .int .i64 x.price] V fun e w' => e = .returned (.bool true) ∧ w' = V := fun V => by rw [← hb]; exact (mo98 V 2 o.price x.price).mono fun _ _ ⟨a, b⟩ => ⟨a, b.symm⟩
      have HCL := Lib.hid hcl
      clear hb hcl hx hg
      go_upto_region 3 with (fail)
      go_quiet ((go_at_call 98; exact Calls.quiet_of_same (HCL.out _)))
      go_wp2_with fail
      go_roundw
      case rel => exact ⟨m, hKk, by omega, by go_num, HW.out.mods ((Mods.refl (fun _ => False) wr).drewN _) (fun _ _ => id), HO.out.drewN _, Below.drewN HB.out _⟩
      case measure => simp [intOf]
    · obtain rfl : K = m + 1 := by omega
      have hb := H0.out m x (by omega) hx
      have hcl : ∀ V, Calls Try.prog 98 #[.int .i64 2, .int .i64 o.price, .int .i64 x.price] V fun e w' => e = .returned (.bool false) ∧ w' = V := fun V => by rw [← hb]; exact (mo98 V 2 o.price x.price).mono fun _ _ ⟨a, b⟩ => ⟨a, b.symm⟩
      have HCL := Lib.hid hcl
      clear hb hcl hx hg
      go_upto_region 3 with (fail)
      go_quiet ((go_at_call 98; exact Calls.quiet_of_same (HCL.out _)))
      go_upto_region 5 with (fail)
      refine cutW (fun V => MbAt V mb u (.slice (some ⟨g, off, none⟩) n c) S ∧ Ob V w.heap.size 122 (moC o) ∧ Below w.heap.size w V) ⟨HW.out.mods ((Mods.refl (fun _ => False) wr).drewN _) (fun _ _ => id), HO.out.drewN _, Below.drewN HB.out _⟩ ?_
      rintro V ⟨h, hO, hB⟩
      have y0 : V.cell? ⟨w.heap.size, 0, none⟩ = some (.string o.id) := hO.cell 0
      have y1 : V.cell? ⟨w.heap.size, 1, none⟩ = some (.int .i64 o.left) := hO.cell 1
      have y3 : V.cell? ⟨w.heap.size, 2, none⟩ = some (.int .i64 o.price) := hO.cell 2
      have hown := h.h1
      rw [HN.out] at hown
      have HI := fun V' gv => Lib.hid (ins99 (base := mb + 1) (v := .slice (some ⟨g, off, none⟩) n c) (n := n) (m + 1) S.2 o hK hn1 V' gv)
      have hob := own_block hown
      have hol := own_lt hown
      have HOb := Lib.hid hob
      have HOl := Lib.hid hol
      have HOw := Lib.hid hown
      have HV := Lib.hid h
      have HBV := Lib.hid hB
      have hmb := h.ho.lt
      have wr1 : IntKind.i64.wrap 1 = 1 := by rfl
      clear h hO hB hown hob hol HB HW HO y2 hc HR
      go_region_law
        (first
          | (go_simp
             go_at_call 99
             refine ((HI _ _).out (own_mods HOw.out (((Mods.refl (fun _ => False) V).alloc _).drew) (fun _ _ => id)) (Ob.new V 122 [.string o.id, .int .i64 o.left, .int .i64 o.price]).drew (fun k hk => by have := HOl.out k hk; omega) (by simp; omega)).mono ?_
             rintro e w6 ⟨v6, rfl, hown6, hg6, hat6⟩
             obtain ⟨A6, c6, hv6, -, -, -⟩ := own_shape hown6
             subst hv6
             have ho6 := ((HV.out.ho.alloc (.cells #[.string o.id, .int .i64 o.left, .int .i64 o.price] 122)).drew).grown hg6 (fun k hk => by have := HOb.out k hk; omega)
             have hc6 := ho6.cell
             have hz6 := ho6.frozen
             have hl6 := ho6.lt))
      go_wp2_with fail
      go_end0
      have hput := HV.out.put 1 (by decide) (.slice A6 (n + 1) c6) (putAt (m + 1) o S.2) ((((Mods.refl (fun k => (if (1 : Nat) = 0 then u else (Value.slice (some ⟨g, off, none⟩) n c)).ownBlock = some k) V).alloc (.cells #[.string o.id, .int .i64 o.left, .int .i64 o.price] 122)).drew).grown hg6 (fun k hk => .inl hk)) (by
        rw [putAt_len (by rw [HN.out]; exact hK), HN.out]
        rw [insV_flat moC 3 moC_len] at hown6
        exact hown6) (fun k hk => by
        rcases hat6 with h6 | ⟨k6, h6, h7⟩
        · left; rw [h6] at hk; exact hk
        · right
          rw [h6] at hk
          injection hk with hk
          simp at h7
          omega) (by rw [putAt_len (by rw [HN.out]; exact hK)]; exact Nat.le_refl _) HN9.out
      exact ⟨rfl, MbTo.trans H.out (Below.mods_ HBV.out _) (fun k hk => .inl hk) hput⟩

end Go.Proofs.Ytjhlaifflhjafaa
