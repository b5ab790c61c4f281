import Derived.Test.YtjhlaifflhjafaaPe
import Derived.Deep.RegionLaw
import Derived.WalkMore
import Derived.Deep.RegionHeld3
namespace Go.Proofs.Ytjhlaifflhjafaa
open Go.RowKit

theorem info145 : (Try.prog.info? 145).map (fun i => (i.zero, i.size, i.bytes)) = some (some (.agg #[.string ⟨#[]⟩, .string ⟨#[]⟩, .int .i64 0, .int .i64 0]), 4, 48) := by kernel_rfl
theorem own_ix {V : World} {base g n c : Nat} {L : List Ro} (h : V.ownsRow base 129 4 (.slice (some ⟨g, 0, none⟩) n c) n (L.flatMap roC)) (hL : L.length = n) {i : Nat} {b : Ro} (hb : L[i]? = some b) :
    base ≤ g ∧ n ≤ c ∧ g < V.heap.size ∧ (∀ j, V.frozen? ⟨g, j, none⟩ = false) ∧ V.cell? ⟨g, i * 4, none⟩ = some (.string b.id) ∧ V.cell? ⟨g, i * 4 + 1, none⟩ = some (.int .i64 b.side) ∧ V.cell? ⟨g, i * 4 + 2, none⟩ = some (.int .i64 b.left) ∧ V.cell? ⟨g, i * 4 + 3, none⟩ = some (.int .i64 b.price) ∧
    ∀ v, (V.setCell ⟨g, i * 4 + 2, none⟩ (.int .i64 v)).ownsRow base 129 4 (.slice (some ⟨g, 0, none⟩) n c) n ((L.set i { b with left := v }).flatMap roC) := by
  have hi := (List.getElem?_eq_some_iff.1 hb).1
  obtain ⟨g', cur, hA, hbs, hO, h1, h2, h3, h4⟩ := own_ob h (by omega)
  injection hA with hA
  injection hA with hA _ _
  subst hA
  have hcell : ∀ j v, (L.flatMap roC)[j]? = some v → V.cell? ⟨g, j, none⟩ = some v := fun j v hv => by
    rw [hO.cell j]
    rw [← h4, List.getElem?_take] at hv
    split at hv
    · exact hv
    · cases hv
  have hset : ∀ (l : List Ro) (k : Nat) (x : Ro) (v : Int), l[k]? = some x → (l.flatMap roC).set (k * 4 + 2) (.int .i64 v) = (l.set k { x with left := v }).flatMap roC := by
    intro l
    induction l with
    | nil => intro k x v hx; simp at hx
    | cons a l ih =>
      intro k x v hx
      cases k with
      | zero =>
        simp only [List.getElem?_cons_zero, Option.some.injEq] at hx
        subst hx
        rfl
      | succ k =>
        have := ih k x v (by simpa using hx)
        simp only [List.set_cons_succ, List.flatMap_cons, ← this]
        rw [List.set_append_right _ _ (by rw [roC_len]; omega), roC_len, show (k + 1) * 4 + 2 - 4 = k * 4 + 2 by omega]
  refine ⟨hbs, h1, hO.lt, hO.frozen, ?_, ?_, ?_, ?_, fun v => ?_⟩
  · exact hcell _ _ (flat_at roC 4 roC_len L i 0 b hb (by omega))
  · exact hcell _ _ (flat_at roC 4 roC_len L i 1 b hb (by omega))
  · exact hcell _ _ (flat_at roC 4 roC_len L i 2 b hb (by omega))
  · exact hcell _ _ (flat_at roC 4 roC_len L i 3 b hb (by omega))
  · exact ob_own hbs (hO.set (i * 4 + 2) (.int .i64 v)) h1 h2 (by simpa using h3) (by rw [List.take_set, h4, hset L i b v hb])

/-- Within come: what is known of the world. -/
structure CoAt (w : World) (rb : Nat) (v : Value) (nm : ByteArray) (side p : Int) (W : World) (u : Value) (L : List Ro) (left : Int) (vo : Value) (out : List Tr) : Prop where
  hb : RbAt W rb u L
  ho : Ob W w.heap.size 129 [.string nm, .int .i64 side, .int .i64 left, .int .i64 p]
  hown : W.ownsRow (w.heap.size + 1) 145 4 vo out.length (out.flatMap trC)
  hm : Mods (RbS rb v) w W
  hf : ∀ k, RbS rb u k → RbS rb v k ∨ w.heap.size ≤ k
  hx : ∀ k, RbS rb u k → k ≠ w.heap.size ∧ vo.ownBlock ≠ some k
theorem CoAt.gen {w W W' : World} {rb : Nat} {v u vo : Value} {nm : ByteArray} {side p left : Int} {L : List Ro} {out : List Tr} (h : CoAt w rb v nm side p W u L left vo out) (hB : Mods (fun _ => False) W W') : CoAt w rb v nm side p W' u L left vo out :=
  ⟨h.hb.mods hB (fun _ _ => id), h.ho.mods hB id, own_mods h.hown hB (fun _ _ => id), h.hm.trans (hB.mono (fun _ _ => False.elim)), h.hf, h.hx⟩
theorem CoAt.app {w W W' : World} {rb : Nat} {v u vo vo' : Value} {nm : ByteArray} {side p left : Int} {L : List Ro} {out out' : List Tr} (h : CoAt w rb v nm side p W u L left vo out) (hM : Mods (fun k => vo.ownBlock = some k) W W')
    (hown : W'.ownsRow (w.heap.size + 1) 145 4 vo' out'.length (out'.flatMap trC)) (hv : ∀ k, vo'.ownBlock = some k → vo.ownBlock = some k ∨ W.heap.size ≤ k) : CoAt w rb v nm side p W' u L left vo' out' := by
  have hbl := own_block h.hown
  refine ⟨h.hb.mods hM (fun k hk => (h.hx k hk).2), h.ho.mods hM (fun hk => by have := hbl _ hk; omega), hown, ?_, h.hf, fun k hk => ⟨(h.hx k hk).1, fun hk2 => ?_⟩⟩
  · refine ⟨hM.os.trans h.hm.os, hM.tape.trans h.hm.tape, hM.output.trans h.hm.output, Nat.le_trans h.hm.size hM.size, fun k hk hn => ?_⟩
    rw [hM.block k (Nat.lt_of_lt_of_le hk h.hm.size) (fun hs => by have := hbl _ hs; omega), h.hm.block k hk hn]
  · rcases hv k hk2 with h2 | h2
    · exact (h.hx k hk).2 h2
    · have := (h.hb.lt hk).2; omega
theorem CoAt.setL {w W : World} {rb : Nat} {v u vo : Value} {nm : ByteArray} {side p left : Int} {L : List Ro} {out : List Tr} (h : CoAt w rb v nm side p W u L left vo out) (x : Int) : CoAt w rb v nm side p (W.setCell ⟨w.heap.size, 2, none⟩ (.int .i64 x)) u L x vo out := by
  have hM : Mods (fun k => k = w.heap.size) W (W.setCell ⟨w.heap.size, 2, none⟩ (.int .i64 x)) := (Mods.refl (fun k => k = w.heap.size) W).setCell (⟨w.heap.size, 2, none⟩ : Addr) (.inl rfl) _
  refine ⟨h.hb.mods hM (fun k hk => (h.hx k hk).1), h.ho.set 2 _, own_mods h.hown hM (fun k hk e => by have := own_block h.hown k hk; omega), ?_, h.hf, h.hx⟩
  refine ⟨hM.os.trans h.hm.os, hM.tape.trans h.hm.tape, hM.output.trans h.hm.output, Nat.le_trans h.hm.size hM.size, fun k hk hn => ?_⟩
  rw [hM.block k (Nat.lt_of_lt_of_le hk h.hm.size) (by omega), h.hm.block k hk hn]
/-- The book is turned by what is its own alone. -/
theorem CoAt.to {w W W' : World} {rb : Nat} {v u vo u' : Value} {nm : ByteArray} {side p left : Int} {L L' : List Ro} {out : List Tr} (h : CoAt w rb v nm side p W u L left vo out) (a : RbAt W' rb u' L') (b : Mods (RbS rb u) W W') (c : ∀ k, RbS rb u' k → RbS rb u k ∨ W.heap.size ≤ k) :
    CoAt w rb v nm side p W' u' L' left vo out := by
  refine ⟨a, h.ho.mods b (fun hk => (h.hx _ hk).1 rfl), own_mods h.hown b (fun k hk hk2 => (h.hx k hk2).2 hk), ?_, fun k hk => ?_, fun k hk => ?_⟩
  · refine ⟨b.os.trans h.hm.os, b.tape.trans h.hm.tape, b.output.trans h.hm.output, Nat.le_trans h.hm.size b.size, fun k hk hn => ?_⟩
    rw [b.block k (Nat.lt_of_lt_of_le hk h.hm.size) (fun hs => ?_), h.hm.block k hk hn]
    rcases h.hf k hs with h | h
    · exact hn h
    · omega
  · rcases c k hk with h2 | h2
    · exact h.hf k h2
    · exact .inr (Nat.le_trans h.hm.size h2)
  · rcases c k hk with h2 | h2
    · exact h.hx k h2
    · exact ⟨fun e => by have := h.ho.lt; omega, fun e => by have := own_lt h.hown k e; omega⟩
/-- One cell of the book's own row was written. -/
theorem RbAt.cellW {W : World} {rb g i : Nat} {u v : Value} {L l : List Ro} (h : RbAt W rb u L) (hg : u.ownBlock = some g) (hl : l.length = L.length) (hown : (W.setCell ⟨g, i, none⟩ v).ownsRow (rb + 1) 129 4 u l.length (l.flatMap roC)) : RbAt (W.setCell ⟨g, i, none⟩ v) rb u l ∧ Mods (RbS rb u) W (W.setCell ⟨g, i, none⟩ v) := by
  have hM : Mods (fun k => u.ownBlock = some k) W (W.setCell ⟨g, i, none⟩ v) := (Mods.refl _ W).setCell (⟨g, i, none⟩ : Addr) (.inl hg) _
  exact ⟨⟨h.ho.mods hM (fun hk => by have := own_block h.h _ hk; omega), hown, by have := h.hn; omega⟩, hM.mono (fun k _ hk => .inr hk)⟩
theorem cutAt_set (L : List Ro) (i : Nat) (x : Ro) : cutAt i (L.set i x) = cutAt i L := by
  unfold cutAt
  rw [List.take_set_of_le (Nat.le_refl _), List.drop_set_of_lt (Nat.lt_succ_self _)]
/-- Does the order rest now? -/
def rstB (side p : Int) (L : List Ro) : Bool :=
  match firL (3 - side) L with
  | none => true
  | some i => match L[i]? with
    | none => true
    | some b => !goodB side p b.price
theorem comeR_zero (nm : ByteArray) (side p : Int) (f : Nat) (L : List Ro) (out : List Tr) : comeR nm side p f 0 L out = (L, out) := by
  cases f with
  | zero => rfl
  | succ f => unfold comeR; rw [if_neg (by omega)]
theorem comeR_rest {nm : ByteArray} {side p : Int} {f : Nat} {left : Int} {L : List Ro} {out : List Tr} (h0 : 0 < left) (h : rstB side p L = true) : comeR nm side p (f + 1) left L out = (L ++ [⟨nm, side, left, p⟩], out) := by
  unfold comeR
  rw [if_pos h0]
  unfold rstB at h
  have hfl := fun i (hi : firL (3 - side) L = some i) => (firK_lt (3 - side) L _ i hi).2
  cases hf : firL (3 - side) L with
  | none => rfl
  | some i =>
    rw [hf] at h
    simp only at h ⊢
    cases hb : L[i]? with
    | none => have := hfl i hf; have := List.getElem?_eq_none_iff.1 hb; omega
    | some b =>
      rw [hb] at h
      simp only at h ⊢
      rw [if_pos (by simpa using h)]
theorem rstB_no {side p : Int} {L : List Ro} (h : rstB side p L = false) : ∃ i b, firL (3 - side) L = some i ∧ L[i]? = some b ∧ goodB side p b.price = true := by
  unfold rstB at h
  cases hf : firL (3 - side) L with
  | none => rw [hf] at h; cases h
  | some i =>
    rw [hf] at h
    simp only at h
    cases hb : L[i]? with
    | none => rw [hb] at h; cases h
    | some b =>
      rw [hb] at h
      exact ⟨i, b, rfl, hb, by simpa using h⟩
theorem comeR_go {nm : ByteArray} {side p : Int} {f : Nat} {left : Int} {L : List Ro} {out : List Tr} {i : Nat} {b : Ro} (h0 : 0 < left) (h1 : firL (3 - side) L = some i) (h2 : L[i]? = some b) (h3 : goodB side p b.price = true) :
    comeR nm side p (f + 1) left L out = if left < b.left then (L.set i { b with left := b.left - left }, out ++ [⟨b.id, nm, left, b.price⟩]) else comeR nm side p f (left - b.left) (cutAt i L) (out ++ [⟨b.id, nm, b.left, b.price⟩]) := by
  conv => lhs; unfold comeR
  rw [if_pos h0, h1]
  simp only
  rw [h2]
  simp only
  rw [if_neg (by rw [h3]; decide)]

set_option maxHeartbeats 6400000 in
set_option maxRecDepth 100000 in
theorem rb93 (w : World) (rb : Nat) (v : Value) (L0 : List Ro) (h : RbAt w rb v L0) (nm : ByteArray) (side left p : Int) (hsd : side = 1 ∨ side = 2) (h1 : 1 ≤ left) (h2 : left ≤ 1099511627776) (hx : ∀ o ∈ L0, 1 ≤ o.left ∧ o.left ≤ 1099511627776) (hn : L0.length < 1000) :
    Calls Try.prog 93 #[.pointer (some ⟨rb, 0, none⟩), .agg #[.string nm, .int .i64 side, .int .i64 left, .int .i64 p]] w fun e w' => ∃ vo, e = .returned vo ∧ w'.ownsRow (w.heap.size + 1) 145 4 vo (comeR nm side p (L0.length + 1) left L0 []).2.length ((comeR nm side p (L0.length + 1) left L0 []).2.flatMap trC) ∧ RbTo w rb v (comeR nm side p (L0.length + 1) left L0 []).1 w' := by
  obtain ⟨R, hR⟩ : ∃ R, comeR nm side p (L0.length + 1) left L0 [] = R := ⟨_, rfl⟩
  rw [hR]
  obtain ⟨N, hN⟩ : ∃ N, L0.length = N := ⟨_, rfl⟩
  have hN9 : N < 1000 := by omega
  obtain ⟨i0, hi0, hz0, hz1, hz2⟩ := info_parts info145
  obtain ⟨i9, hi9, hz9, hz91, hz92⟩ := info_parts info129
  have HI := Lib.hid hi0
  have HZ0 := Lib.hid hz0
  have HZ1 := Lib.hid hz1
  have HZ2 := Lib.hid hz2
  have HI9 := Lib.hid hi9
  have HZ90 := Lib.hid hz9
  have HZ91 := Lib.hid hz91
  have HZ92 := Lib.hid hz92
  have H := Lib.hid h
  have HR := Lib.hid hR
  have HX := Lib.hid hx
  have HN := Lib.hid hN
  have hwl := h.ho.lt
  have hw3 : IntKind.i64.wrap (3 - side) = 3 - side := by rw [IntWalk.i64_in _ (by omega)]
  have hsd3 : 3 - side = 1 ∨ 3 - side = 2 := by omega
  have HSD := Lib.hid hsd3
  clear hi0 hz0 hz1 hz2 hi9 hz9 hz91 hz92 h hR hx hN hn hsd hsd3
  go_enter Try.func93, Try.ntmps93
  go_upto_region 1 with (fail)
  refine cutW (fun W => CoAt w rb v nm side p W v L0 left (.slice none 0 0) []) ⟨H.out.below Below.alloc_set, Ob.new w 129 [.string nm, .int .i64 side, .int .i64 left, .int .i64 p], own_nil _ _ _ _, Below.mods_ Below.alloc_set _, fun k hk => .inl hk, fun k hk => ⟨by have := (H.out.lt hk).2; omega, by intro e; cases e⟩⟩ ?_
  rintro W hK
  have HK := Lib.hid hK
  clear hK
  go_wp2_with fail
  go_loopw [5, 6, 7] (fun v5 v6 v7 wr => ∃ left' L out u Ao co f, v5 = .slice Ao out.length co ∧ CoAt w rb v nm side p wr u L left' (.slice Ao out.length co) out ∧ comeR nm side p f left' L out = R ∧ L.length < f ∧ 0 ≤ left' ∧ left' ≤ 1099511627776 ∧ (∀ x ∈ L, 1 ≤ x.left ∧ x.left ≤ 1099511627776) ∧ L.length ≤ N ∧ out.length + L.length ≤ N + 1 ∧ (0 < left' → out.length + L.length ≤ N)) (fun _ _ _ wr => (intOf ((wr.cell? ⟨w.heap.size, 2, none⟩).getD undef)).toNat)
  case atStart => exact ⟨left, L0, [], v, none, 0, _, rfl, HK.out, HR.out, by omega, by omega, h2, HX.out, by rw [HN.out]; exact Nat.le_refl _, by rw [HN.out]; simp, fun _ => by rw [HN.out]; simp⟩
  case round =>
    clear HK
    obtain ⟨left', L, out, u, Ao, co, f, rfl, hK, hml, hfl, hl0, hl9, hxs, hln, hon, hon2⟩ := hrel
    have y2 : wr.cell? ⟨w.heap.size, 2, none⟩ = some (.int .i64 left') := hK.ho.cell 2
    have HY2 := Lib.hid y2
    by_cases hl : left' = 0
    · subst hl
      have HM2 : Hid (R = (L, out)) := Lib.hid (by rw [← hml, comeR_zero])
      have HK := Lib.hid hK
      clear hml hxs hK hl0 hl9 hln hon hon2 hfl
      go_wp2_with fail
      go_ret
      rw [HM2.out]
      exact ⟨_, rfl, HK.out.hown, u, HK.out.hb, HK.out.hm, HK.out.hf⟩
    · have hlp : 0 < left' := by omega
      obtain ⟨f, rfl⟩ : ∃ f', f = f' + 1 := ⟨f - 1, by omega⟩
      have y0 : wr.cell? ⟨w.heap.size, 0, none⟩ = some (.string nm) := hK.ho.cell 0
      have y1 : wr.cell? ⟨w.heap.size, 1, none⟩ = some (.int .i64 side) := hK.ho.cell 1
      have h100 := rb100 wr rb u L hK.hb (3 - side) HSD.out
      have H100 := Lib.hid h100
      have HK := Lib.hid hK
      have HX2 := Lib.hid hxs
      have HML := Lib.hid hml
      clear h100 hK hxs hml hl
      obtain ⟨fo, hfo⟩ : ∃ fo, firL (3 - side) L = fo := ⟨_, rfl⟩
      rw [hfo] at H100
      have HFO := Lib.hid hfo
      clear hfo
      go_upto_region 4 with (go_at_call 100; refine H100.out.mono ?_; rintro e W1 ⟨rfl, hb1⟩)
      refine cutW (fun V => CoAt w rb v nm side p V u L left' (.slice Ao out.length co) out) (HK.out.gen (Below.mods_ hb1 _)) ?_
      clear y0 y1 y2 HK hb1
      rintro V hK
      obtain ⟨B, hB⟩ : ∃ B, rstB side p L = B := ⟨_, rfl⟩
      have y0 : V.cell? ⟨w.heap.size, 0, none⟩ = some (.string nm) := hK.ho.cell 0
      have y1 : V.cell? ⟨w.heap.size, 1, none⟩ = some (.int .i64 side) := hK.ho.cell 1
      have y2 : V.cell? ⟨w.heap.size, 2, none⟩ = some (.int .i64 left') := hK.ho.cell 2
      have y3 : V.cell? ⟨w.heap.size, 3, none⟩ = some (.int .i64 p) := hK.ho.cell 3
      have c0 : V.cell? ⟨rb, 0, none⟩ = some u := hK.hb.ho.cell 0
      have HB := Lib.hid hB
      clear hB
      go_cut [33] (fun x Z => x = .bool B ∧ CoAt w rb v nm side p Z u L left' (.slice Ao out.length co) out)
      case first =>
        have hgen : ∀ q, CoAt w rb v nm side p (V.drewN q) u L left' (.slice Ao out.length co) out := fun q => hK.gen ((Mods.refl (fun _ => False) _).drewN _)
        have HGen := Lib.hid hgen
        cases fo with
        | none =>
          have e : B = true := by rw [← HB.out]; unfold rstB; rw [HFO.out]
          subst e
          have hm : frO none = -1 := rfl
          rw [hm]
          clear hm hK hgen
          go_quiet (fail)
          (try go_wp2_with fail)
          go_meet
          exact ⟨rfl, HGen.out _⟩
        | some i =>
          have hil := (firK_lt (3 - side) L _ i HFO.out).2
          obtain ⟨b, hb⟩ : ∃ b, L[i]? = some b := ⟨_, List.getElem?_eq_getElem hil⟩
          have e : B = !goodB side p b.price := by rw [← HB.out]; unfold rstB; rw [HFO.out]; simp only; rw [hb]
          obtain ⟨A, c, rfl⟩ := hK.hb.shape
          obtain ⟨g, off, rfl, -, -, -, x3⟩ := hK.hb.cells hb
          have hm : frO (some i) = (i : Int) := rfl
          rw [hm]
          have hi0 : decide ((i : Int) < 0) = false := by simp
          have HG : Hid (∀ V, Calls Try.prog 101 #[.int .i64 side, .int .i64 p, .int .i64 b.price] V fun e w' => e = .returned (.bool (goodB side p b.price)) ∧ w' = V) := Lib.hid (fun V => (rb101 V side p b.price).mono fun _ _ ⟨a, b⟩ => ⟨a, b.symm⟩)
          have hLn : L.length ≤ 1000 := hK.hb.hn
          clear hm hK hgen hb HX2 HML
          generalize goodB side p b.price = gb at *
          subst e
          generalize L.length = n at *
          cases gb with
          | false =>
            go_quiet ((go_at_call 101; exact Calls.quiet_of_same (HG.out _)))
            (try go_wp2_with fail)
            go_meet
            exact ⟨rfl, HGen.out _⟩
          | true =>
            go_quiet ((go_at_call 101; exact Calls.quiet_of_same (HG.out _)))
            (try go_wp2_with fail)
            go_meet
            exact ⟨rfl, HGen.out _⟩
      case rest =>
      obtain ⟨rfl, hK2⟩ := hcut
      clear hK y0 y1 y2 y3 c0
      cases B with
      | true =>
        have hRe : R = (L ++ [(⟨nm, side, left', p⟩ : Ro)], out) := by rw [← HML.out]; exact comeR_rest hlp HB.out
        have HRe := Lib.hid hRe
        obtain ⟨A, c, rfl⟩ := hK2.hb.shape
        have hLn : L.length + 1 ≤ 1000 := by omega
        obtain ⟨n, hnn⟩ : ∃ n, L.length = n := ⟨_, rfl⟩
        have HLn := Lib.hid hnn
        have Hrow : Hid (wc.ownsRow (rb + 1) 129 4 (.slice A n c) n (L.flatMap roC)) := Lib.hid (by have := hK2.hb.h; rw [hnn] at this; exact this)
        have c0 : wc.cell? ⟨rb, 0, none⟩ = some (.slice A n c) := by rw [← hnn]; exact hK2.hb.ho.cell 0
        have HO := Lib.hid hK2.hb.ho
        have z0 := hK2.hb.ho.frozen
        have z1 := hK2.hb.ho.lt
        have x0 : wc.cell? ⟨w.heap.size, 0, none⟩ = some (.string nm) := hK2.ho.cell 0
        have x1 : wc.cell? ⟨w.heap.size, 1, none⟩ = some (.int .i64 side) := hK2.ho.cell 1
        have x2 : wc.cell? ⟨w.heap.size, 2, none⟩ = some (.int .i64 left') := hK2.ho.cell 2
        have x3 : wc.cell? ⟨w.heap.size, 3, none⟩ = some (.int .i64 p) := hK2.ho.cell 3
        have Hn4 : Hid (n + 1 ≤ 1000000) := Lib.hid (by omega)
        have Hbs : Hid (∀ o, rb + 1 ≤ ((wc.alloc o).drew).heap.size) := Lib.hid (fun o => by simp; omega)
        have Hne : Hid (∀ k, (Value.slice A n c).ownBlock = some k → rb ≠ k) := Lib.hid (fun k hk => by have := own_block Hrow.out k hk; omega)
        have f1a : ∀ o, (wc.alloc o).cell? ⟨rb, 0, none⟩ = some (.slice A n c) := fun o => cell_al o c0
        have f1b : wc.drew.cell? ⟨rb, 0, none⟩ = some (.slice A n c) := c0
        have x0b : wc.drew.cell? ⟨w.heap.size, 0, none⟩ = some (.string nm) := x0
        have x0a : ∀ o, (wc.alloc o).cell? ⟨w.heap.size, 0, none⟩ = some (.string nm) := fun o => cell_al o x0
        have x1b : wc.drew.cell? ⟨w.heap.size, 1, none⟩ = some (.int .i64 side) := x1
        have x1a : ∀ o, (wc.alloc o).cell? ⟨w.heap.size, 1, none⟩ = some (.int .i64 side) := fun o => cell_al o x1
        have x2b : wc.drew.cell? ⟨w.heap.size, 2, none⟩ = some (.int .i64 left') := x2
        have x2a : ∀ o, (wc.alloc o).cell? ⟨w.heap.size, 2, none⟩ = some (.int .i64 left') := fun o => cell_al o x2
        have x3b : wc.drew.cell? ⟨w.heap.size, 3, none⟩ = some (.int .i64 p) := x3
        have x3a : ∀ o, (wc.alloc o).cell? ⟨w.heap.size, 3, none⟩ = some (.int .i64 p) := fun o => cell_al o x3
        have HK := Lib.hid hK2
        clear hK2 hRe hnn
        go_upto_region 5 with (fail)
        go_region_law
          (first
            | (refine step_append1 rfl (.tmp 38) (.tmp 40) 86 rfl (rb + 1) 129 i9 _ 4 40 Try.underlying86 HI9.out HZ90.out HZ91.out HZ92.out rfl (by decide) (.slice A n c) n _ rfl (own_mods Hrow.out (((Mods.refl (fun _ => False) wc).alloc (.cells #[.string nm, .int .i64 side, .int .i64 left', .int .i64 p] 129)).drew) (fun _ _ => id)) _ [.string nm, .int .i64 side, .int .i64 left', .int .i64 p] rfl ?_ rfl ?_ Hn4.out ?_ (Hbs.out _) (fun v5 w5 hown5 hg5 hat5 => ?_)
               · exact (Ob.new wc 129 [.string nm, .int .i64 side, .int .i64 left', .int .i64 p]).drew
               · simp [Value.oneCell']
               · decide
               have ho5 := ((HO.out.alloc (.cells #[.string nm, .int .i64 side, .int .i64 left', .int .i64 p] 129)).drew).grown hg5 (fun kk hk => Hne.out kk hk)
               have hz5 := ho5.frozen
               obtain ⟨A5, c5, rfl, -, -, -⟩ := own_shape hown5
               have hc5 := ho5.cell
               have hl5 := ho5.lt))
        all_goals
          go_wp2_with fail
          go_ret
          have hu5 := (Upd.refl rb w5).set 0 (.slice A5 (n + 1) c5)
          have hlen : (L ++ [(⟨nm, side, left', p⟩ : Ro)]).length = n + 1 := by rw [List.length_append, HLn.out]; rfl
          have ha : RbAt (w5.setCell ⟨rb, 0, none⟩ (.slice A5 (n + 1) c5)) rb (.slice A5 (n + 1) c5) (L ++ [(⟨nm, side, left', p⟩ : Ro)]) := ⟨ho5.set 0 _, by
            have := own_upd hown5 hu5 (by omega)
            rw [hlen, List.flatMap_append]
            exact this, by have := HLn.out; rw [hlen]; omega⟩
          have hb : Mods (RbS rb (.slice A n c)) wc (w5.setCell ⟨rb, 0, none⟩ (.slice A5 (n + 1) c5)) := ((((Mods.refl _ wc).alloc _).drew).grown hg5 (fun k hk => .inl (.inr hk))).setCell (⟨rb, 0, none⟩ : Addr) (.inl (.inl rfl)) _
          have hKK := HK.out
          rw [HLn.out] at hKK
          have hK3 := hKK.to ha hb (fun k hk => by
            rcases hk with rfl | hk
            · exact .inl (.inl rfl)
            · rcases hat5 with h6 | h6
              · exact .inl (.inr (by rw [← h6]; exact hk))
              · right
                rw [h6] at hk
                injection hk with hk
                simp at hk
                omega)
          rw [HRe.out]
          exact ⟨_, rfl, hK3.hown, _, hK3.hb, hK3.hm, hK3.hf⟩
      | false =>
        obtain ⟨i, b, h1f, hbi, hgb⟩ := rstB_no HB.out
        have e : fo = some i := by rw [← HFO.out]; exact h1f
        subst e
        have hil := (List.getElem?_eq_some_iff.1 hbi).1
        have hxx := HX2.out b (List.mem_of_getElem? hbi)
        obtain ⟨A, c, rfl⟩ := hK2.hb.shape
        obtain ⟨g, cur, rfl, -⟩ := own_ob hK2.hb.h (by omega)
        obtain ⟨n, hnn⟩ : ∃ n, L.length = n := ⟨_, rfl⟩
        rw [hnn] at hK2 hil hfl hln hon hon2
        have hcc := hK2.hb.ho.cell
        have HLn := Lib.hid hnn
        have HBI := Lib.hid hbi
        have HGB := Lib.hid hgb
        have HK0 := Lib.hid hK2
        have hm : frO (some i) = (i : Int) := rfl
        rw [hm]
        clear hm hK2 hnn hbi hgb h1f hcc
        have Ho3 : Hid (out.length + 1 ≤ 1000000) := Lib.hid (by omega)
        have hxx1 := hxx.1
        have hxx2 := hxx.2
        clear hxx
        by_cases hlt : left' < b.left
        · have hmin : ¬ b.left < left' := by omega
          have hwA : IntKind.i64.wrap (left' - left') = 0 := by rw [IntWalk.i64_in _ (by omega)]; omega
          have hwB : IntKind.i64.wrap (b.left - left') = b.left - left' := by rw [IntWalk.i64_in _ (by omega)]
          have hz2 : (b.left - left' == 0) = false := by simp; omega
          have hz3 : ¬ b.left - left' = 0 := by omega
          have HBS : Hid ((L.set i { b with left := (b.left - left') })[i]? = some { b with left := (b.left - left') }) := Lib.hid (List.getElem?_set_self (by rw [HLn.out]; exact hil))
          go_upto_region 7 with (fail)
          have hK := HK0.out
          have y0 : wc.cell? ⟨w.heap.size, 0, none⟩ = some (.string nm) := hK.ho.cell 0
          have y1 : wc.cell? ⟨w.heap.size, 1, none⟩ = some (.int .i64 side) := hK.ho.cell 1
          have y2 : wc.cell? ⟨w.heap.size, 2, none⟩ = some (.int .i64 left') := hK.ho.cell 2
          have y3 : wc.cell? ⟨w.heap.size, 3, none⟩ = some (.int .i64 p) := hK.ho.cell 3
          have y4 := hK.ho.frozen
          have y5 := hK.ho.lt
          have hrow : wc.ownsRow (rb + 1) 129 4 (.slice (some ⟨g, 0, none⟩) n c) n (L.flatMap roC) := by
            have := hK.hb.h
            rw [HLn.out] at this
            exact this
          obtain ⟨d1, d2, d3, d4, x0, x1, x2, x3, hset⟩ := own_ix hrow HLn.out HBI.out
          have c0 : wc.cell? ⟨rb, 0, none⟩ = some (.slice (some ⟨g, 0, none⟩) n c) := hK.hb.ho.cell 0
          have z0 := hK.hb.ho.frozen
          have z1 := hK.hb.ho.lt
          have HK := Lib.hid hK
          have HSet := Lib.hid hset
          clear hset hrow hK
          clear HK0
          refine wp_region_tail 10 (by kernel_rfl) (by kernel_rfl) ?_
          simp only [List.take_succ_cons, List.take_zero, List.drop_succ_cons, List.drop_zero]
          repeat (go_big_quiet_step (fail))
          refine wpQuiet_nil ?_
          go_upto_region 8 with (fail)
          refine cutW (fun V => CoAt w rb v nm side p V (.slice (some ⟨g, 0, none⟩) n c) L left' (.slice Ao out.length co) out) (HK.out.gen (Mods.refl (fun _ => False) _).drew) ?_
          clear y0 y1 y2 y3 y4 y5 x0 x1 x2 x3 c0 z0 z1 d1 d3 d4 HK HSet
          rintro V hK
          have y0 : V.cell? ⟨w.heap.size, 0, none⟩ = some (.string nm) := hK.ho.cell 0
          have y1 : V.cell? ⟨w.heap.size, 1, none⟩ = some (.int .i64 side) := hK.ho.cell 1
          have y2 : V.cell? ⟨w.heap.size, 2, none⟩ = some (.int .i64 left') := hK.ho.cell 2
          have y3 : V.cell? ⟨w.heap.size, 3, none⟩ = some (.int .i64 p) := hK.ho.cell 3
          have y4 := hK.ho.frozen
          have y5 := hK.ho.lt
          have hrow : V.ownsRow (rb + 1) 129 4 (.slice (some ⟨g, 0, none⟩) n c) n (L.flatMap roC) := by
            have := hK.hb.h
            rw [HLn.out] at this
            exact this
          obtain ⟨d1, d2, d3, d4, x0, x1, x2, x3, hset⟩ := own_ix hrow HLn.out HBI.out
          have c0 : V.cell? ⟨rb, 0, none⟩ = some (.slice (some ⟨g, 0, none⟩) n c) := hK.hb.ho.cell 0
          have z0 := hK.hb.ho.frozen
          have z1 := hK.hb.ho.lt
          have HK := Lib.hid hK
          have HSet := Lib.hid hset
          clear hset hrow hK
          have Hnb : Hid (∀ k, (Value.slice Ao out.length co).ownBlock = some k → g ≠ k ∧ w.heap.size ≠ k ∧ rb ≠ k) := Lib.hid (fun k hk => ⟨fun e => (HK.out.hx g (.inr rfl)).2 (by rw [e]; exact hk), fun e => by have := own_block HK.out.hown k hk; omega, fun e => by have := own_block HK.out.hown k hk; omega⟩)
          have Hsz : Hid (∀ o, w.heap.size + 1 ≤ (V.drew.alloc o).heap.size) := Lib.hid (fun o => by simp; omega)
          go_region_held3 (fun w' => w'.cell? ⟨g, i * 4, none⟩ = some (.string b.id) ∧ w'.cell? ⟨g, i * 4 + 3, none⟩ = some (.int .i64 b.price) ∧ w'.cell? ⟨w.heap.size, 0, none⟩ = some (.string nm) ∧ w'.cell? ⟨rb, 0, none⟩ = some (.slice (some ⟨g, 0, none⟩) n c))
            (first | exact ⟨x0, x3, y0, c0⟩ | exact ⟨g1, g2, g3, g4⟩ | exact ⟨cell_al _ x0, cell_al _ x3, cell_al _ y0, cell_al _ c0⟩ | go_keep)
            (first
              | (refine step_append1 rfl (.tmp 56) (.tmp 77) 123 rfl (w.heap.size + 1) 145 i0 _ 4 48 Try.underlying123 HI.out HZ0.out HZ1.out HZ2.out rfl (by decide) (.slice Ao out.length co) out.length _ rfl (own_mods HK.out.hown (((Mods.refl (fun _ => False) V).drew).alloc (.cells #[.string b.id, .string nm, .int .i64 left', .int .i64 b.price] 145)) (fun _ _ => id)) _ [.string b.id, .string nm, .int .i64 left', .int .i64 b.price] rfl ?_ rfl ?_ Ho3.out ?_ (Hsz.out _) (fun vo2 w2 hown2 hg2 hat2 => ?_)
                 · exact Ob.new _ 145 [.string b.id, .string nm, .int .i64 left', .int .i64 b.price]
                 · simp [Value.oneCell']
                 · decide
                 have g1 := cell_gr hg2 (cell_al _ x0) (fun k hk => (Hnb.out k hk).1)
                 have g2 := cell_gr hg2 (cell_al _ x3) (fun k hk => (Hnb.out k hk).1)
                 have g3 := cell_gr hg2 (cell_al _ y0) (fun k hk => (Hnb.out k hk).2.1)
                 have g4 := cell_gr hg2 (cell_al _ c0) (fun k hk => (Hnb.out k hk).2.2)))
          obtain ⟨A2, c2, rfl, -, -, -⟩ := own_shape hown2
          go_upto_region 9 with (fail)
          have hK2 : CoAt w rb v nm side p w2 (.slice (some ⟨g, 0, none⟩) n c) L left' (.slice A2 (out.length + 1) c2) (out ++ [⟨b.id, nm, left', b.price⟩]) := HK.out.app ((((Mods.refl _ V).drew).alloc _).grown hg2 (fun k hk => .inl hk)) (by
            rw [List.length_append, List.flatMap_append]
            simpa [trC] using hown2) (fun k hk => by
            rcases hat2 with h6 | h6
            · left; rw [h6] at hk; exact hk
            · right
              rw [h6] at hk
              injection hk with hk
              simp at hk
              omega)
          refine cutW (fun V => CoAt w rb v nm side p V (.slice (some ⟨g, 0, none⟩) n c) L left' (.slice A2 (out.length + 1) c2) (out ++ [⟨b.id, nm, left', b.price⟩])) hK2 ?_
          clear y0 y1 y2 y3 y4 y5 x0 x1 x2 x3 c0 z0 z1 d1 d3 d4 HK HSet hown2 hg2 hat2 hK2 g1 g2 g3 g4 Hnb Hsz
          rintro V hK
          have y0 : V.cell? ⟨w.heap.size, 0, none⟩ = some (.string nm) := hK.ho.cell 0
          have y1 : V.cell? ⟨w.heap.size, 1, none⟩ = some (.int .i64 side) := hK.ho.cell 1
          have y2 : V.cell? ⟨w.heap.size, 2, none⟩ = some (.int .i64 left') := hK.ho.cell 2
          have y3 : V.cell? ⟨w.heap.size, 3, none⟩ = some (.int .i64 p) := hK.ho.cell 3
          have y4 := hK.ho.frozen
          have y5 := hK.ho.lt
          have hrow : V.ownsRow (rb + 1) 129 4 (.slice (some ⟨g, 0, none⟩) n c) n (L.flatMap roC) := by
            have := hK.hb.h
            rw [HLn.out] at this
            exact this
          obtain ⟨d1, d2, d3, d4, x0, x1, x2, x3, hset⟩ := own_ix hrow HLn.out HBI.out
          have c0 : V.cell? ⟨rb, 0, none⟩ = some (.slice (some ⟨g, 0, none⟩) n c) := hK.hb.ho.cell 0
          have z0 := hK.hb.ho.frozen
          have z1 := hK.hb.ho.lt
          have HK := Lib.hid hK
          have HSet := Lib.hid hset
          clear hset hrow hK
          go_upto_region 10 with (fail)
          refine cutW (fun V => CoAt w rb v nm side p V (.slice (some ⟨g, 0, none⟩) n c) L 0 (.slice A2 (out.length + 1) c2) (out ++ [⟨b.id, nm, left', b.price⟩])) (HK.out.setL 0) ?_
          clear y0 y1 y2 y3 y4 y5 x0 x1 x2 x3 c0 z0 z1 d1 d3 d4 HK HSet V
          rintro V hK
          have y0 : V.cell? ⟨w.heap.size, 0, none⟩ = some (.string nm) := hK.ho.cell 0
          have y1 : V.cell? ⟨w.heap.size, 1, none⟩ = some (.int .i64 side) := hK.ho.cell 1
          have y2 : V.cell? ⟨w.heap.size, 2, none⟩ = some (.int .i64 0) := hK.ho.cell 2
          have y3 : V.cell? ⟨w.heap.size, 3, none⟩ = some (.int .i64 p) := hK.ho.cell 3
          have y4 := hK.ho.frozen
          have y5 := hK.ho.lt
          have hrow : V.ownsRow (rb + 1) 129 4 (.slice (some ⟨g, 0, none⟩) n c) n (L.flatMap roC) := by
            have := hK.hb.h
            rw [HLn.out] at this
            exact this
          obtain ⟨d1, d2, d3, d4, x0, x1, x2, x3, hset⟩ := own_ix hrow HLn.out HBI.out
          have c0 : V.cell? ⟨rb, 0, none⟩ = some (.slice (some ⟨g, 0, none⟩) n c) := hK.hb.ho.cell 0
          have z0 := hK.hb.ho.frozen
          have z1 := hK.hb.ho.lt
          have HK := Lib.hid hK
          have HSet := Lib.hid hset
          clear hset hrow hK
          go_upto_region 11 with (fail)
          have hK2 : CoAt w rb v nm side p (V.setCell ⟨g, i * 4 + 2, none⟩ (.int .i64 (b.left - left'))) (.slice (some ⟨g, 0, none⟩) n c) (L.set i { b with left := (b.left - left') }) 0 (.slice A2 (out.length + 1) c2) (out ++ [⟨b.id, nm, left', b.price⟩]) := by
            obtain ⟨q1, q2⟩ := HK.out.hb.cellW (g := g) (i := i * 4 + 2) (v := .int .i64 (b.left - left')) (l := (L.set i { b with left := (b.left - left') })) rfl (by simp) (by
              have := HSet.out (b.left - left')
              rw [List.length_set, HLn.out]
              exact this)
            exact HK.out.to q1 q2 (fun k hk => .inl hk)
          refine cutW (fun V => CoAt w rb v nm side p V (.slice (some ⟨g, 0, none⟩) n c) (L.set i { b with left := (b.left - left') }) 0 (.slice A2 (out.length + 1) c2) (out ++ [⟨b.id, nm, left', b.price⟩])) hK2 ?_
          clear y0 y1 y2 y3 y4 y5 x0 x1 x2 x3 c0 z0 z1 d1 d3 d4 HK HSet hK2 V
          rintro V hK
          have y2 : V.cell? ⟨w.heap.size, 2, none⟩ = some (.int .i64 0) := hK.ho.cell 2
          have c0 : V.cell? ⟨rb, 0, none⟩ = some (.slice (some ⟨g, 0, none⟩) n c) := hK.hb.ho.cell 0
          have hrow : V.ownsRow (rb + 1) 129 4 (.slice (some ⟨g, 0, none⟩) n c) n ((L.set i { b with left := (b.left - left') }).flatMap roC) := by
            have := hK.hb.h
            rw [List.length_set, HLn.out] at this
            exact this
          obtain ⟨-, -, -, -, -, -, x2, -, -⟩ := own_ix hrow (by rw [List.length_set, HLn.out]) HBS.out
          have HK := Lib.hid hK
          have HB2 := Lib.hid hK.hb
          clear hrow hK
          go_wp2_with fail
          go_roundw
          case rel => exact ⟨0, (L.set i { b with left := (b.left - left') }), (out ++ [⟨b.id, nm, left', b.price⟩]), _, A2, c2, f + 1, by simp, by rw [List.length_append]; exact HK.out, by rw [comeR_zero, ← HML.out, comeR_go hlp HFO.out HBI.out HGB.out, if_pos hlt], by rw [List.length_set, HLn.out]; omega, by omega, by omega, fun y hy => by
            rcases List.mem_or_eq_of_mem_set hy with hy | rfl
            · exact HX2.out y hy
            · simp only; omega, by rw [List.length_set, HLn.out]; omega, by simp only [List.length_append, List.length_cons, List.length_nil, List.length_set, HLn.out]; omega, fun h => by omega⟩
          case measure =>
            simp only [HY2.out, y2, Option.getD_some, intOf]
            omega
        have hmn : (if b.left < left' then b.left else left') = b.left := by split <;> omega
        have hwA : IntKind.i64.wrap (left' - b.left) = left' - b.left := by rw [IntWalk.i64_in _ (by omega)]
        have hwB : IntKind.i64.wrap (b.left - b.left) = 0 := by rw [IntWalk.i64_in _ (by omega)]; omega
        have HBS : Hid ((L.set i { b with left := 0 })[i]? = some { b with left := 0 }) := Lib.hid (List.getElem?_set_self (by rw [HLn.out]; exact hil))
        go_upto_region 7 with (fail)
        have hK := HK0.out
        have y0 : wc.cell? ⟨w.heap.size, 0, none⟩ = some (.string nm) := hK.ho.cell 0
        have y1 : wc.cell? ⟨w.heap.size, 1, none⟩ = some (.int .i64 side) := hK.ho.cell 1
        have y2 : wc.cell? ⟨w.heap.size, 2, none⟩ = some (.int .i64 left') := hK.ho.cell 2
        have y3 : wc.cell? ⟨w.heap.size, 3, none⟩ = some (.int .i64 p) := hK.ho.cell 3
        have y4 := hK.ho.frozen
        have y5 := hK.ho.lt
        have hrow : wc.ownsRow (rb + 1) 129 4 (.slice (some ⟨g, 0, none⟩) n c) n (L.flatMap roC) := by
          have := hK.hb.h
          rw [HLn.out] at this
          exact this
        obtain ⟨d1, d2, d3, d4, x0, x1, x2, x3, hset⟩ := own_ix hrow HLn.out HBI.out
        have c0 : wc.cell? ⟨rb, 0, none⟩ = some (.slice (some ⟨g, 0, none⟩) n c) := hK.hb.ho.cell 0
        have z0 := hK.hb.ho.frozen
        have z1 := hK.hb.ho.lt
        have HK := Lib.hid hK
        have HSet := Lib.hid hset
        clear hset hrow hK
        clear HK0
        refine wp_region_tail 10 (by kernel_rfl) (by kernel_rfl) ?_
        simp only [List.take_succ_cons, List.take_zero, List.drop_succ_cons, List.drop_zero]
        repeat (go_big_quiet_step (fail))
        refine wpQuiet_nil ?_
        go_upto_region 8 with (fail)
        refine cutW (fun V => CoAt w rb v nm side p V (.slice (some ⟨g, 0, none⟩) n c) L left' (.slice Ao out.length co) out) (HK.out.gen (Mods.refl (fun _ => False) _).drew) ?_
        clear y0 y1 y2 y3 y4 y5 x0 x1 x2 x3 c0 z0 z1 d1 d3 d4 HK HSet
        rintro V hK
        have y0 : V.cell? ⟨w.heap.size, 0, none⟩ = some (.string nm) := hK.ho.cell 0
        have y1 : V.cell? ⟨w.heap.size, 1, none⟩ = some (.int .i64 side) := hK.ho.cell 1
        have y2 : V.cell? ⟨w.heap.size, 2, none⟩ = some (.int .i64 left') := hK.ho.cell 2
        have y3 : V.cell? ⟨w.heap.size, 3, none⟩ = some (.int .i64 p) := hK.ho.cell 3
        have y4 := hK.ho.frozen
        have y5 := hK.ho.lt
        have hrow : V.ownsRow (rb + 1) 129 4 (.slice (some ⟨g, 0, none⟩) n c) n (L.flatMap roC) := by
          have := hK.hb.h
          rw [HLn.out] at this
          exact this
        obtain ⟨d1, d2, d3, d4, x0, x1, x2, x3, hset⟩ := own_ix hrow HLn.out HBI.out
        have c0 : V.cell? ⟨rb, 0, none⟩ = some (.slice (some ⟨g, 0, none⟩) n c) := hK.hb.ho.cell 0
        have z0 := hK.hb.ho.frozen
        have z1 := hK.hb.ho.lt
        have HK := Lib.hid hK
        have HSet := Lib.hid hset
        clear hset hrow hK
        have Hnb : Hid (∀ k, (Value.slice Ao out.length co).ownBlock = some k → g ≠ k ∧ w.heap.size ≠ k ∧ rb ≠ k) := Lib.hid (fun k hk => ⟨fun e => (HK.out.hx g (.inr rfl)).2 (by rw [e]; exact hk), fun e => by have := own_block HK.out.hown k hk; omega, fun e => by have := own_block HK.out.hown k hk; omega⟩)
        have Hsz : Hid (∀ o, w.heap.size + 1 ≤ (V.drew.alloc o).heap.size) := Lib.hid (fun o => by simp; omega)
        go_region_held3 (fun w' => w'.cell? ⟨g, i * 4, none⟩ = some (.string b.id) ∧ w'.cell? ⟨g, i * 4 + 3, none⟩ = some (.int .i64 b.price) ∧ w'.cell? ⟨w.heap.size, 0, none⟩ = some (.string nm) ∧ w'.cell? ⟨rb, 0, none⟩ = some (.slice (some ⟨g, 0, none⟩) n c))
          (first | exact ⟨x0, x3, y0, c0⟩ | exact ⟨g1, g2, g3, g4⟩ | exact ⟨cell_al _ x0, cell_al _ x3, cell_al _ y0, cell_al _ c0⟩ | go_keep)
          (first
            | (refine step_append1 rfl (.tmp 56) (.tmp 77) 123 rfl (w.heap.size + 1) 145 i0 _ 4 48 Try.underlying123 HI.out HZ0.out HZ1.out HZ2.out rfl (by decide) (.slice Ao out.length co) out.length _ rfl (own_mods HK.out.hown (((Mods.refl (fun _ => False) V).drew).alloc (.cells #[.string b.id, .string nm, .int .i64 b.left, .int .i64 b.price] 145)) (fun _ _ => id)) _ [.string b.id, .string nm, .int .i64 b.left, .int .i64 b.price] rfl ?_ rfl ?_ Ho3.out ?_ (Hsz.out _) (fun vo2 w2 hown2 hg2 hat2 => ?_)
               · exact Ob.new _ 145 [.string b.id, .string nm, .int .i64 b.left, .int .i64 b.price]
               · simp [Value.oneCell']
               · decide
               have g1 := cell_gr hg2 (cell_al _ x0) (fun k hk => (Hnb.out k hk).1)
               have g2 := cell_gr hg2 (cell_al _ x3) (fun k hk => (Hnb.out k hk).1)
               have g3 := cell_gr hg2 (cell_al _ y0) (fun k hk => (Hnb.out k hk).2.1)
               have g4 := cell_gr hg2 (cell_al _ c0) (fun k hk => (Hnb.out k hk).2.2)))
        obtain ⟨A2, c2, rfl, -, -, -⟩ := own_shape hown2
        go_upto_region 9 with (fail)
        have hK2 : CoAt w rb v nm side p w2 (.slice (some ⟨g, 0, none⟩) n c) L left' (.slice A2 (out.length + 1) c2) (out ++ [⟨b.id, nm, b.left, b.price⟩]) := HK.out.app ((((Mods.refl _ V).drew).alloc _).grown hg2 (fun k hk => .inl hk)) (by
          rw [List.length_append, List.flatMap_append]
          simpa [trC] using hown2) (fun k hk => by
          rcases hat2 with h6 | h6
          · left; rw [h6] at hk; exact hk
          · right
            rw [h6] at hk
            injection hk with hk
            simp at hk
            omega)
        refine cutW (fun V => CoAt w rb v nm side p V (.slice (some ⟨g, 0, none⟩) n c) L left' (.slice A2 (out.length + 1) c2) (out ++ [⟨b.id, nm, b.left, b.price⟩])) hK2 ?_
        clear y0 y1 y2 y3 y4 y5 x0 x1 x2 x3 c0 z0 z1 d1 d3 d4 HK HSet hown2 hg2 hat2 hK2 g1 g2 g3 g4 Hnb Hsz
        rintro V hK
        have y0 : V.cell? ⟨w.heap.size, 0, none⟩ = some (.string nm) := hK.ho.cell 0
        have y1 : V.cell? ⟨w.heap.size, 1, none⟩ = some (.int .i64 side) := hK.ho.cell 1
        have y2 : V.cell? ⟨w.heap.size, 2, none⟩ = some (.int .i64 left') := hK.ho.cell 2
        have y3 : V.cell? ⟨w.heap.size, 3, none⟩ = some (.int .i64 p) := hK.ho.cell 3
        have y4 := hK.ho.frozen
        have y5 := hK.ho.lt
        have hrow : V.ownsRow (rb + 1) 129 4 (.slice (some ⟨g, 0, none⟩) n c) n (L.flatMap roC) := by
          have := hK.hb.h
          rw [HLn.out] at this
          exact this
        obtain ⟨d1, d2, d3, d4, x0, x1, x2, x3, hset⟩ := own_ix hrow HLn.out HBI.out
        have c0 : V.cell? ⟨rb, 0, none⟩ = some (.slice (some ⟨g, 0, none⟩) n c) := hK.hb.ho.cell 0
        have z0 := hK.hb.ho.frozen
        have z1 := hK.hb.ho.lt
        have HK := Lib.hid hK
        have HSet := Lib.hid hset
        clear hset hrow hK
        go_upto_region 10 with (fail)
        refine cutW (fun V => CoAt w rb v nm side p V (.slice (some ⟨g, 0, none⟩) n c) L (left' - b.left) (.slice A2 (out.length + 1) c2) (out ++ [⟨b.id, nm, b.left, b.price⟩])) (HK.out.setL (left' - b.left)) ?_
        clear y0 y1 y2 y3 y4 y5 x0 x1 x2 x3 c0 z0 z1 d1 d3 d4 HK HSet V
        rintro V hK
        have y0 : V.cell? ⟨w.heap.size, 0, none⟩ = some (.string nm) := hK.ho.cell 0
        have y1 : V.cell? ⟨w.heap.size, 1, none⟩ = some (.int .i64 side) := hK.ho.cell 1
        have y2 : V.cell? ⟨w.heap.size, 2, none⟩ = some (.int .i64 (left' - b.left)) := hK.ho.cell 2
        have y3 : V.cell? ⟨w.heap.size, 3, none⟩ = some (.int .i64 p) := hK.ho.cell 3
        have y4 := hK.ho.frozen
        have y5 := hK.ho.lt
        have hrow : V.ownsRow (rb + 1) 129 4 (.slice (some ⟨g, 0, none⟩) n c) n (L.flatMap roC) := by
          have := hK.hb.h
          rw [HLn.out] at this
          exact this
        obtain ⟨d1, d2, d3, d4, x0, x1, x2, x3, hset⟩ := own_ix hrow HLn.out HBI.out
        have c0 : V.cell? ⟨rb, 0, none⟩ = some (.slice (some ⟨g, 0, none⟩) n c) := hK.hb.ho.cell 0
        have z0 := hK.hb.ho.frozen
        have z1 := hK.hb.ho.lt
        have HK := Lib.hid hK
        have HSet := Lib.hid hset
        clear hset hrow hK
        go_upto_region 11 with (fail)
        have hK2 : CoAt w rb v nm side p (V.setCell ⟨g, i * 4 + 2, none⟩ (.int .i64 0)) (.slice (some ⟨g, 0, none⟩) n c) (L.set i { b with left := 0 }) (left' - b.left) (.slice A2 (out.length + 1) c2) (out ++ [⟨b.id, nm, b.left, b.price⟩]) := by
          obtain ⟨q1, q2⟩ := HK.out.hb.cellW (g := g) (i := i * 4 + 2) (v := .int .i64 0) (l := (L.set i { b with left := 0 })) rfl (by simp) (by
            have := HSet.out 0
            rw [List.length_set, HLn.out]
            exact this)
          exact HK.out.to q1 q2 (fun k hk => .inl hk)
        refine cutW (fun V => CoAt w rb v nm side p V (.slice (some ⟨g, 0, none⟩) n c) (L.set i { b with left := 0 }) (left' - b.left) (.slice A2 (out.length + 1) c2) (out ++ [⟨b.id, nm, b.left, b.price⟩])) hK2 ?_
        clear y0 y1 y2 y3 y4 y5 x0 x1 x2 x3 c0 z0 z1 d1 d3 d4 HK HSet hK2 V
        rintro V hK
        have y2 : V.cell? ⟨w.heap.size, 2, none⟩ = some (.int .i64 (left' - b.left)) := hK.ho.cell 2
        have c0 : V.cell? ⟨rb, 0, none⟩ = some (.slice (some ⟨g, 0, none⟩) n c) := hK.hb.ho.cell 0
        have hrow : V.ownsRow (rb + 1) 129 4 (.slice (some ⟨g, 0, none⟩) n c) n ((L.set i { b with left := 0 }).flatMap roC) := by
          have := hK.hb.h
          rw [List.length_set, HLn.out] at this
          exact this
        obtain ⟨-, -, -, -, -, -, x2, -, -⟩ := own_ix hrow (by rw [List.length_set, HLn.out]) HBS.out
        have HK := Lib.hid hK
        have HB2 := Lib.hid hK.hb
        clear hrow hK
        have h94 := rb94 V rb (.slice (some ⟨g, 0, none⟩) n c) (L.set i { b with left := 0 }) (by have := HB2.out; exact this) i (by rw [List.length_set, HLn.out]; omega)
        have H94 := Lib.hid h94
        clear h94
        go_wp2_with (go_at_call 94; refine H94.out.mono ?_; rintro e w6 ⟨⟨u9, rfl⟩, u', q1, q2, q3⟩)
        have hK3 := HK.out.to q1 q2 q3
        rw [cutAt_set] at hK3
        have y2' : w6.cell? ⟨w.heap.size, 2, none⟩ = some (.int .i64 (left' - b.left)) := hK3.ho.cell 2
        go_roundw
        case rel => exact ⟨(left' - b.left), cutAt i L, (out ++ [⟨b.id, nm, b.left, b.price⟩]), _, A2, c2, f, by simp, by rw [List.length_append]; exact hK3, by rw [← HML.out, comeR_go hlp HFO.out HBI.out HGB.out, if_neg (by omega)], by have := HLn.out; rw [cutAt_len (by rw [HLn.out]; omega)]; omega, by omega, by omega, fun y hy => by
          refine HX2.out y ?_
          unfold cutAt at hy
          rcases List.mem_append.1 hy with hy | hy
          · exact List.mem_of_mem_take hy
          · exact List.mem_of_mem_drop hy, by have := HLn.out; rw [cutAt_len (by rw [HLn.out]; omega)]; omega, by simp only [List.length_append, List.length_cons, List.length_nil, cutAt_len (show i < L.length by rw [HLn.out]; omega), HLn.out]; omega, fun h => by simp only [List.length_append, List.length_cons, List.length_nil, cutAt_len (show i < L.length by rw [HLn.out]; omega), HLn.out]; have := hon2 hlp; omega⟩
        case measure =>
          simp only [HY2.out, y2', Option.getD_some, intOf]
          omega

end Go.Proofs.Ytjhlaifflhjafaa
