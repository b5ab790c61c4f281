import Derived.Test.YtjhlaifflhjafaaPh
namespace Go.Proofs.Ytjhlaifflhjafaa
section
open Go.RowKit

/-- What the document's book asks of its list. -/
structure RoB (L : List Ro) : Prop where
  x : ∀ o ∈ L, 1 ≤ o.left ∧ o.left ≤ 1099511627776
  n : L.length ≤ 512
  s : ∀ o ∈ L, o.side = 1 ∨ o.side = 2
/-- How a call of the document's ends that tells trades and an error. -/
def RbP (w : World) (rb : Nat) (v : Value) (r : (List Tr × Int) × List Ro) (e : Ending) (w' : World) : Prop :=
  ∃ vo, e = .returned (.tuple #[vo, .int .i64 r.1.2]) ∧ w'.ownsRow (w.heap.size + 1) 145 4 vo r.1.1.length (r.1.1.flatMap trC) ∧ RbTo w rb v r.2 w'
theorem RbP.err {w w' : World} {rb : Nat} {v : Value} {L : List Ro} (h : RbAt w rb v L) (hb : Below w.heap.size w w') (n : Int) : RbP w rb v (([], n), L) (.returned (.tuple #[.slice none 0 0, .int .i64 n])) w' :=
  ⟨_, rfl, own_nil _ _ _ _, RbTo.same h hb⟩

set_option maxHeartbeats 3200000 in
set_option maxRecDepth 100000 in
theorem rb75 (w : World) (rb : Nat) (v : Value) (L : List Ro) (h : RbAt w rb v L) (hx : RoB L) (id : ByteArray) (hid : id.size ≤ 70368744177664) (side qty price : Int) :
    Calls Try.prog 75 #[.pointer (some ⟨rb, 0, none⟩), .string id, .int .i64 side, .int .i64 qty, .int .i64 price] w fun e w' => RbP w rb v (addR L id side qty price) e w' := by
  have H := Lib.hid h
  have HX := Lib.hid hx
  have hv := fun W => rValid W id hid
  obtain ⟨nb, hnb⟩ : ∃ nb, nameB id = nb := ⟨_, rfl⟩
  rw [hnb] at hv
  have HV := Lib.hid hv
  clear h hx hv hid
  cases nb with
  | false =>
    have e : addR L id side qty price = (([], 43), L) := by unfold addR; rw [if_pos hnb]
    rw [e]
    clear e hnb
    go_enter Try.func75, Try.ntmps75
    go_wp2_with (go_at_call 17; refine (HV.out _).mono ?_; rintro e w1 ⟨rfl, hb1⟩)
    go_ret2
    exact RbP.err H.out hb1 _
  | true =>
  have e0 : addR L id side qty price = if okB side qty price = false then (([], 2), L)
    else if rIdx L id < L.length then (([], 41), L)
    else if 512 ≤ L.length then (([], 40), L)
    else (((comeR id side price (L.length + 1) qty L []).2, 0), (comeR id side price (L.length + 1) qty L []).1) := by unfold addR; rw [if_neg (by rw [hnb]; decide)]
  rw [e0]
  clear e0 hnb
  have hokc : okB side qty price = (inB side 1 2 && (inB qty 1 1099511627776 && inB price 1 1099511627776)) := rfl
  have HOC := Lib.hid hokc
  clear hokc
  cases hb : okB side qty price with
  | false =>
    rw [if_pos rfl]
    rw [hb] at HOC
    go_enter Try.func75, Try.ntmps75
    go_upto_region 3 with (go_at_call 17; refine (HV.out _).mono ?_; rintro e w1 ⟨rfl, hb1⟩)
    refine cutW (fun W => RbAt W rb v L ∧ Below w.heap.size w W) ⟨H.out.below hb1, hb1⟩ ?_
    clear hb1
    rintro W ⟨hW, hB⟩
    have HW := Lib.hid hW
    have HB := Lib.hid hB
    clear hW hB hb
    have hc := HOC.out
    clear HOC
    rcases (show inB side 1 2 = false ∨ (inB side 1 2 = true ∧ inB qty 1 1099511627776 = false) ∨ (inB side 1 2 = true ∧ inB qty 1 1099511627776 = true ∧ inB price 1 1099511627776 = false) by
      revert hc
      cases inB side 1 2 <;> cases inB qty 1 1099511627776 <;> cases inB price 1 1099511627776 <;> decide) with g1 | ⟨g1, g2⟩ | ⟨g1, g2, g3⟩
    all_goals
      clear hc
      go_wp2_with (go_at_call 92; refine (rb92 _ _ _ _).mono ?_; rintro e w1 ⟨rfl, rfl⟩)
      go_ret2
      exact RbP.err H.out HB.out _
  | true =>
  rw [if_neg (by decide)]
  have hin := okB_iff.1 hb
  have g1 : inB side 1 2 = true := inB_iff.2 hin.1
  have g2 : inB qty 1 1099511627776 = true := inB_iff.2 hin.2.1
  have g3 : inB price 1 1099511627776 = true := inB_iff.2 hin.2.2
  have HIN := Lib.hid hin
  clear hb hin HOC
  obtain ⟨R, hR⟩ : ∃ R, (if rIdx L id < L.length then (([], 41), L) else if 512 ≤ L.length then (([], 40), L) else (((comeR id side price (L.length + 1) qty L []).2, 0), (comeR id side price (L.length + 1) qty L []).1) : (List Tr × Int) × List Ro) = R := ⟨_, rfl⟩
  rw [hR]
  have HR := Lib.hid hR
  clear hR
  go_enter Try.func75, Try.ntmps75
  go_upto_region 3 with (go_at_call 17; refine (HV.out _).mono ?_; rintro e w1 ⟨rfl, hb1⟩)
  refine cutW (fun W => RbAt W rb v L ∧ Below w.heap.size w W) ⟨H.out.below hb1, hb1⟩ ?_
  clear hb1
  rintro W ⟨hW, hB⟩
  have h79 := rb79 W rb v L hW id
  have hc := hW.ho.cell
  obtain ⟨A, c, rfl⟩ := hW.shape
  have HW := Lib.hid hW
  have HB := Lib.hid hB
  have H79 := Lib.hid h79
  clear hW hB h79
  by_cases hf : rIdx L id < L.length
  · have hR := HR.out
    rw [if_pos hf] at hR
    have HR2 := Lib.hid hR
    have e1 : frI (rIdx L id) L.length = (rIdx L id : Int) := if_pos hf
    rw [e1] at H79
    clear hR e1
    have hd : decide ((0 : Int) ≤ (rIdx L id : Int)) = true := by simp
    go_wp2_with (first
      | (go_at_call 92; refine (rb92 _ _ _ _).mono ?_; rintro e w1 ⟨rfl, rfl⟩)
      | (go_at_call 79; refine H79.out.mono ?_; rintro e w1 ⟨rfl, rfl⟩))
    go_ret2
    rw [← HR2.out]
    exact RbP.err H.out HB.out _
  · have hR := HR.out
    rw [if_neg hf] at hR
    have e1 : frI (rIdx L id) L.length = -1 := if_neg hf
    rw [e1] at H79
    clear e1 hf
    by_cases hn : 512 ≤ L.length
    · rw [if_pos hn] at hR
      have HR2 := Lib.hid hR
      clear hR
      have hd2 : decide ((512 : Int) ≤ (L.length : Int)) = true := by simp; omega
      generalize hnn : L.length = n at *
      have HNN := Lib.hid hnn
      clear hnn
      go_wp2_with (first
        | (go_at_call 92; refine (rb92 _ _ _ _).mono ?_; rintro e w1 ⟨rfl, rfl⟩)
        | (go_at_call 79; refine H79.out.mono ?_; rintro e w1 ⟨rfl, rfl⟩))
      go_ret2
      rw [← HR2.out, HNN.out]
      exact RbP.err H.out HB.out _
    · rw [if_neg hn] at hR
      have HR2 := Lib.hid hR
      clear hR
      have hd2 : decide ((512 : Int) ≤ (L.length : Int)) = false := by simp; omega
      have h93 := rb93 W rb _ L HW.out id side qty price (by have := HIN.out.1; omega) HIN.out.2.1.1 HIN.out.2.1.2 HX.out.x (by have := HX.out.n; omega)
      have H93 := Lib.hid h93
      clear h93
      generalize comeR id side price (L.length + 1) qty L [] = C at *
      generalize hnn : L.length = n at *
      have HNN := Lib.hid hnn
      clear hn hnn
      go_wp2_with (first
        | (go_at_call 92; refine (rb92 _ _ _ _).mono ?_; rintro e w1 ⟨rfl, rfl⟩)
        | (go_at_call 79; refine H79.out.mono ?_; rintro e w1 ⟨rfl, rfl⟩)
        | (go_at_call 93; refine H93.out.mono ?_; rintro e w3 ⟨vo, rfl, hown, hto⟩))
      go_ret2
      rw [← HR2.out, HNN.out]
      exact ⟨vo, rfl, own_base hown (by have := HB.out.size; omega), RbTo.trans (Below.mods_ HB.out _) (fun k hk => .inl hk) hto⟩

set_option maxHeartbeats 3200000 in
set_option maxRecDepth 100000 in
theorem rb77 (w : World) (rb : Nat) (v : Value) (L : List Ro) (h : RbAt w rb v L) (id : ByteArray) :
    Calls Try.prog 77 #[.pointer (some ⟨rb, 0, none⟩), .string id] w fun e w' => e = .returned (.tuple #[.int .i64 (canR L id).1.1, .int .i64 (canR L id).1.2]) ∧ RbTo w rb v (canR L id).2 w' := by
  have h79 := rb79 w rb v L h id
  have hc := h.ho.cell
  have h94 := rb94 w rb v L h (rIdx L id)
  obtain ⟨A, c, rfl⟩ := h.shape
  have H := Lib.hid h
  have H79 := Lib.hid h79
  have H94 := Lib.hid h94
  cases ho : L[rIdx L id]? with
  | none =>
    have e : canR L id = ((0, 42), L) := by unfold canR; rw [ho]
    rw [e]
    have hf := List.getElem?_eq_none_iff.1 ho
    have e1 : frI (rIdx L id) L.length = -1 := if_neg (by omega)
    rw [e1] at H79
    clear e e1 hf ho h h79 h94
    go_enter Try.func77, Try.ntmps77
    go_wp2_with (go_at_call 79; refine H79.out.mono ?_; rintro e w1 ⟨rfl, rfl⟩)
    go_ret2
    exact ⟨rfl, RbTo.same H.out (Below.refl _ _)⟩
  | some o =>
    have e : canR L id = ((o.left, 0), cutAt (rIdx L id) L) := by unfold canR; rw [ho]
    rw [e]
    have hf := (List.getElem?_eq_some_iff.1 ho).1
    have e1 : frI (rIdx L id) L.length = (rIdx L id : Int) := if_pos hf
    rw [e1] at H79
    obtain ⟨g, off, rfl, -, -, x2, -⟩ := h.cells ho
    have H94' := Lib.hid (H94.out hf)
    generalize rIdx L id = i at *
    generalize hnn : L.length = n at *
    have HNN := Lib.hid hnn
    have hn9 : n ≤ 1000 := by have := h.hn; omega
    clear e e1 ho h h79 h94 H94 hnn
    go_enter Try.func77, Try.ntmps77
    go_wp2_with (first
      | (go_at_call 79; refine H79.out.mono ?_; rintro e w1 ⟨rfl, rfl⟩)
      | (go_at_call 94; refine H94'.out.mono ?_; rintro e w3 ⟨⟨u9, rfl⟩, hto⟩))
    go_ret2
    exact ⟨rfl, hto⟩
end

section
open Go.RowKit

theorem cut_mem {L : List Ro} {i : Nat} {o : Ro} (h : o ∈ cutAt i L) : o ∈ L := by
  unfold cutAt at h
  rcases List.mem_append.1 h with h | h
  · exact List.mem_of_mem_take h
  · exact List.mem_of_mem_drop h

set_option maxHeartbeats 3200000 in
set_option maxRecDepth 100000 in
theorem rb78 (w : World) (rb : Nat) (v : Value) (L : List Ro) (h : RbAt w rb v L) (hx : RoB L) (id : ByteArray) (qty price : Int) :
    Calls Try.prog 78 #[.pointer (some ⟨rb, 0, none⟩), .string id, .int .i64 qty, .int .i64 price] w fun e w' => RbP w rb v (repR L id qty price) e w' := by
  have h79 := rb79 w rb v L h id
  have hc := h.ho.cell
  obtain ⟨A, c, rfl⟩ := h.shape
  have H := Lib.hid h
  have HX := Lib.hid hx
  have H79 := Lib.hid h79
  cases ho : L[rIdx L id]? with
  | none =>
    have e : repR L id qty price = (([], 42), L) := by unfold repR; rw [ho]
    rw [e]
    have hf := List.getElem?_eq_none_iff.1 ho
    have e1 : frI (rIdx L id) L.length = -1 := if_neg (by omega)
    rw [e1] at H79
    clear e e1 hf ho h h79 hx
    go_enter Try.func78, Try.ntmps78
    go_wp2_with (go_at_call 79; refine H79.out.mono ?_; rintro e w1 ⟨rfl, rfl⟩)
    go_ret2
    exact RbP.err H.out (Below.refl _ _) _
  | some o =>
    have hf := (List.getElem?_eq_some_iff.1 ho).1
    have e1 : frI (rIdx L id) L.length = (rIdx L id : Int) := if_pos hf
    rw [e1] at H79
    have hxo := hx.x o (List.mem_of_getElem? ho)
    have hso := hx.s o (List.mem_of_getElem? ho)
    cases hb : (inB qty 1 1099511627776 && inB price 1 1099511627776) with
    | false =>
      have e : repR L id qty price = (([], 2), L) := by unfold repR; rw [ho]; simp only; rw [if_pos hb]
      rw [e]
      generalize rIdx L id = i at *
      clear e e1 ho h h79 hx
      rcases (show inB qty 1 1099511627776 = false ∨ (inB qty 1 1099511627776 = true ∧ inB price 1 1099511627776 = false) by
        revert hb
        cases inB qty 1 1099511627776 <;> cases inB price 1 1099511627776 <;> decide) with g1 | ⟨g1, g2⟩
      all_goals
        clear hb
        go_enter Try.func78, Try.ntmps78
        go_wp2_with (first
          | (go_at_call 79; refine H79.out.mono ?_; rintro e w1 ⟨rfl, rfl⟩)
          | (go_at_call 92; refine (rb92 _ _ _ _).mono ?_; rintro e w1 ⟨rfl, rfl⟩))
        go_ret2
        exact RbP.err H.out (Below.refl _ _) _
    | true =>
      obtain ⟨R, hR⟩ : ∃ R, repR L id qty price = R := ⟨_, rfl⟩
      have eR : R = if price = o.price ∧ qty ≤ o.left then (([], 0), L.set (rIdx L id) { o with left := qty })
          else (((comeR id o.side price ((cutAt (rIdx L id) L).length + 1) qty (cutAt (rIdx L id) L) []).2, 0), (comeR id o.side price ((cutAt (rIdx L id) L).length + 1) qty (cutAt (rIdx L id) L) []).1) := by
        rw [← hR]
        unfold repR
        rw [ho]
        simp only
        rw [if_neg (by rw [hb]; decide)]
      rw [hR]
      have HR := Lib.hid eR
      rw [Bool.and_eq_true] at hb
      obtain ⟨g1, g2⟩ := hb
      have hq := inB_iff.1 g1
      have HQ := Lib.hid hq
      obtain ⟨g, cur, rfl, -⟩ := own_ob h.h (by omega)
      obtain ⟨-, -, -, -, x0, x1, x2, x3, -⟩ := own_ix h.h rfl ho
      have HO := Lib.hid ho
      generalize rIdx L id = i at *
      have hn9 := h.hn
      have HF := Lib.hid hf
      generalize hnn : L.length = n at *
      have HNN := Lib.hid hnn
      have Hwl : Hid (rb < w.heap.size) := Lib.hid h.ho.lt
      clear e1 hR eR hq h79 hx h ho hnn
      go_enter Try.func78, Try.ntmps78
      go_upto_region 7 with (first
          | (go_at_call 79; refine H79.out.mono ?_; rintro e w1 ⟨rfl, rfl⟩)
          | (go_at_call 92; refine (rb92 _ _ _ _).mono ?_; rintro e w1 ⟨rfl, rfl⟩))
      have hO := Ob.new w 129 [.string o.id, .int .i64 o.side, .int .i64 o.left, .int .i64 o.price]
      refine cutW (fun W => Ob W w.heap.size 129 [.string o.id, .int .i64 o.side, .int .i64 o.left, .int .i64 o.price] ∧ RbAt W rb (.slice (some ⟨g, 0, none⟩) n c) L ∧ Below w.heap.size w W) ⟨hO, H.out.below Below.alloc_set, Below.alloc_set⟩ ?_
      clear hO hc x0 x1 x2 x3
      rintro W ⟨hO, hW, hB⟩
      have hoc := hO.cell
      have hwc := hW.ho.cell
      have HOb := Lib.hid hO
      have HW := Lib.hid hW
      have HB := Lib.hid hB
      clear hO hW hB
      by_cases hp : price = o.price ∧ qty ≤ o.left
      · have hR := HR.out
        rw [if_pos hp] at hR
        have HR2 := Lib.hid hR
        have hp1 : (price == o.price) = true := by simp [hp.1]
        have hp2 : decide (qty ≤ o.left) = true := by simp [hp.2]
        have hrow : W.ownsRow (rb + 1) 129 4 (.slice (some ⟨g, 0, none⟩) n c) n (L.flatMap roC) := by
          have := HW.out.h
          rw [HNN.out] at this
          exact this
        obtain ⟨d1, d2, d3, d4, y0, y1, y2, y3, hset⟩ := own_ix hrow HNN.out HO.out
        have HSet := Lib.hid hset
        have HB1 := Lib.hid d1
        clear hR hp hrow hset d1
        go_wp2_with fail
        go_ret2
        have hlen : (L.set i { o with left := qty }).length = n := by rw [List.length_set, HNN.out]
        obtain ⟨q1, q2⟩ := HW.out.cellW (g := g) (i := i * 4 + 2) (v := .int .i64 qty) (l := L.set i { o with left := qty }) rfl (by simp) (by rw [hlen]; exact HSet.out qty)
        rw [HR2.out]
        refine ⟨_, rfl, own_nil _ _ _ _, _, q1, ?_, fun k hk => .inl hk⟩
        exact (Below.mods_ HB.out _).trans q2
      · have hR := HR.out
        rw [if_neg hp] at hR
        have HR2 := Lib.hid hR
        have h94 := rb94 W rb (.slice (some ⟨g, 0, none⟩) n c) L HW.out i (by rw [HNN.out]; exact HF.out)
        have H94 := Lib.hid h94
        have hcl := cutAt_len (show i < L.length by rw [HNN.out]; exact HF.out)
        have HCl := Lib.hid hcl
        have h93 := fun V u (hV : RbAt V rb u (cutAt i L)) => rb93 V rb u (cutAt i L) hV id o.side qty price hso HQ.out.1 HQ.out.2 (fun x hx => HX.out.x x (cut_mem hx)) (by have := HX.out.n; omega)
        have H93 := Lib.hid h93
        clear hR h94 hcl h93
        generalize comeR id o.side price ((cutAt i L).length + 1) qty (cutAt i L) [] = C at *
        have hwC := HB.out.size
        by_cases hp1 : price = o.price
        · have hp2 : ¬ qty ≤ o.left := fun e => hp ⟨hp1, e⟩
          have hp1' : (price == o.price) = true := by simp [hp1]
          have hp2' : decide (qty ≤ o.left) = false := by simpa using hp2
          clear hp hp1 hp2
          go_upto_region 11 with (go_at_call 94; refine H94.out.mono ?_; rintro e w3 ⟨⟨u9, rfl⟩, u, q1, q2, q3⟩)
          have hO3 := HOb.out.mods q2 (fun hk => by have h5 := (H.out.lt hk).2; omega)
          have hoc3 := hO3.cell
          have H93' := Lib.hid (H93.out w3 u q1)
          have HQ2 := Lib.hid q2
          have HQ3 := Lib.hid q3
          clear hoc hwc hO3 q1 q2 q3
          go_wp2_with (go_at_call 93; refine H93'.out.mono ?_; rintro e w4 ⟨vo, rfl, hown, hto⟩)
          go_ret2
          rw [HR2.out]
          have hsz := HQ2.out.size
          exact ⟨vo, rfl, own_base hown (by omega), RbTo.trans (Below.mods_ HB.out _) (fun k hk => .inl hk) (RbTo.trans HQ2.out HQ3.out hto)⟩
        · have hp1' : (price == o.price) = false := by simpa using hp1
          clear hp hp1
          go_upto_region 11 with (go_at_call 94; refine H94.out.mono ?_; rintro e w3 ⟨⟨u9, rfl⟩, u, q1, q2, q3⟩)
          have hO3 := HOb.out.mods q2 (fun hk => by have h5 := (H.out.lt hk).2; omega)
          have hoc3 := hO3.cell
          have H93' := Lib.hid (H93.out w3 u q1)
          have HQ2 := Lib.hid q2
          have HQ3 := Lib.hid q3
          clear hoc hwc hO3 q1 q2 q3
          go_wp2_with (go_at_call 93; refine H93'.out.mono ?_; rintro e w4 ⟨vo, rfl, hown, hto⟩)
          go_ret2
          rw [HR2.out]
          have hsz := HQ2.out.size
          exact ⟨vo, rfl, own_base hown (by omega), RbTo.trans (Below.mods_ HB.out _) (fun k hk => .inl hk) (RbTo.trans HQ2.out HQ3.out hto)⟩
end

end Go.Proofs.Ytjhlaifflhjafaa
