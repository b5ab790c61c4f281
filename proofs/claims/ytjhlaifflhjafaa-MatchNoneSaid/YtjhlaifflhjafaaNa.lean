import Derived.Test.YtjhlaifflhjafaaRm
namespace Go.Proofs.Ytjhlaifflhjafaa
open Go.RowKit

/-- An order that rests. -/
structure Mo where
  id : ByteArray
  left : Int
  price : Int
def moC (o : Mo) : List Value := [.string o.id, .int .i64 o.left, .int .i64 o.price]
theorem moC_len (o : Mo) : (moC o).length = 3 := rfl
theorem moC_one (o : Mo) : ∀ u ∈ moC o, u.oneCell' = true := by simp [moC, Value.oneCell']
theorem mo_one (l : List Mo) : ∀ u ∈ l.flatMap moC, u.oneCell' = true := by
  intro u hu
  obtain ⟨o, -, ho⟩ := List.mem_flatMap.1 hu
  exact moC_one o u ho
def mIdx (l : List Mo) (id : ByteArray) : Nat := idxP (fun o => eqB id o.id) l
/-- The two sides. -/
abbrev Sd := List Mo × List Mo
def Sd.at (S : Sd) (i : Nat) : List Mo := if i = 0 then S.1 else S.2
def Sd.put (S : Sd) (i : Nat) (l : List Mo) : Sd := if i = 0 then (l, S.2) else (S.1, l)

/-- A book at mb: its two rows. -/
structure MbAt (w : World) (mb : Nat) (v0 v1 : Value) (S : Sd) : Prop where
  ho : Ob w mb 99 [v0, v1]
  h0 : w.ownsRow (mb + 1) 122 3 v0 S.1.length (S.1.flatMap moC)
  h1 : w.ownsRow (mb + 1) 122 3 v1 S.2.length (S.2.flatMap moC)
  ap : ∀ k, v0.ownBlock = some k → v1.ownBlock ≠ some k
  hn : S.1.length + S.2.length ≤ 1000
/-- What is a book's own. -/
def MbS (mb : Nat) (v0 v1 : Value) (k : Nat) : Prop := k = mb ∨ v0.ownBlock = some k ∨ v1.ownBlock = some k
theorem MbAt.lt {w : World} {mb : Nat} {v0 v1 : Value} {S : Sd} (h : MbAt w mb v0 v1 S) {k : Nat} (hk : MbS mb v0 v1 k) : mb ≤ k ∧ k < w.heap.size := by
  rcases hk with rfl | hk | hk
  · exact ⟨Nat.le_refl _, h.ho.lt⟩
  · exact ⟨by have := own_block h.h0 k hk; omega, own_lt h.h0 k hk⟩
  · exact ⟨by have := own_block h.h1 k hk; omega, own_lt h.h1 k hk⟩
theorem MbAt.mods {w w' : World} {mb : Nat} {v0 v1 : Value} {S : Sd} {T : Nat → Prop} (h : MbAt w mb v0 v1 S) (hm : Mods T w w') (hT : ∀ k, MbS mb v0 v1 k → ¬ T k) : MbAt w' mb v0 v1 S :=
  ⟨h.ho.mods hm (hT _ (.inl rfl)), own_mods h.h0 hm (fun k hk => hT _ (.inr (.inl hk))), own_mods h.h1 hm (fun k hk => hT _ (.inr (.inr hk))), h.ap, h.hn⟩
theorem MbAt.below {w w' : World} {mb : Nat} {v0 v1 : Value} {S : Sd} (h : MbAt w mb v0 v1 S) (hb : Below w.heap.size w w') : MbAt w' mb v0 v1 S := h.mods (Below.mods_ hb (fun _ => False)) (fun _ _ => id)
/-- A book has become another one. -/
def MbTo (w : World) (mb : Nat) (v0 v1 : Value) (S' : Sd) (w' : World) : Prop :=
  ∃ v0' v1', MbAt w' mb v0' v1' S' ∧ Mods (MbS mb v0 v1) w w' ∧ ∀ k, MbS mb v0' v1' k → MbS mb v0 v1 k ∨ w.heap.size ≤ k
theorem MbTo.trans {w w1 w2 : World} {mb : Nat} {v0 v1 v0' v1' : Value} {S S' : Sd} (h : MbAt w mb v0 v1 S) (hm : Mods (MbS mb v0 v1) w w1) (hf : ∀ k, MbS mb v0' v1' k → MbS mb v0 v1 k ∨ w.heap.size ≤ k) (h2 : MbTo w1 mb v0' v1' S' w2) : MbTo w mb v0 v1 S' w2 := by
  obtain ⟨u0, u1, a, b, c⟩ := h2
  refine ⟨u0, u1, a, ?_, fun k hk => ?_⟩
  · refine ⟨b.os.trans hm.os, b.tape.trans hm.tape, b.output.trans hm.output, Nat.le_trans hm.size b.size, fun k hk hn => ?_⟩
    rw [b.block k (Nat.lt_of_lt_of_le hk hm.size) (fun hs => ?_), hm.block k hk hn]
    rcases hf k hs with h | h
    · exact hn h
    · omega
  · rcases c k hk with h | h
    · exact hf k h
    · exact .inr (Nat.le_trans hm.size h)
theorem MbTo.below {B : Nat} {a w w' : World} {mb : Nat} {v0 v1 : Value} {S S' : Sd} (h : MbTo w mb v0 v1 S' w') (hr : MbAt w mb v0 v1 S) (hb : Below B a w) (h1 : B ≤ mb) : Below B a w' := by
  obtain ⟨u0, u1, -, b, -⟩ := h
  exact Below.mods hb b (fun k hk => Nat.le_trans h1 (hr.lt hk).1) (Nat.le_trans h1 (by have := hr.ho.lt; omega))

/-- A side's row was turned to another one of the book's own, and then laid down. -/
theorem MbAt.put {w w1 : World} {mb : Nat} {v0 v1 : Value} {S : Sd} (h : MbAt w mb v0 v1 S) (i : Nat) (hi : i = 0 ∨ i = 1) (v' : Value) (l : List Mo)
    (hm : Mods (fun k => (if i = 0 then v0 else v1).ownBlock = some k) w w1) (hown : w1.ownsRow (mb + 1) 122 3 v' l.length (l.flatMap moC)) (hv : ∀ k, v'.ownBlock = some k → (if i = 0 then v0 else v1).ownBlock = some k ∨ w.heap.size ≤ k) (hl : l.length ≤ (S.at i).length + 1) (hn : S.1.length + S.2.length < 1000) :
    MbTo w mb v0 v1 (S.put i l) (w1.setCell ⟨mb, i, none⟩ v') := by
  have hu := (Upd.refl mb w1).set i v'
  have hob : Ob w1 mb 99 [v0, v1] := h.ho.mods hm (fun hk => by
    rcases hi with rfl | rfl
    · have := own_block h.h0 _ hk; omega
    · have := own_block h.h1 _ hk; omega)
  have hs := hob.set i v'
  rcases hi with rfl | rfl
  · refine ⟨v', v1, ⟨hs, own_upd hown hu (by omega), own_upd (own_mods h.h1 hm (fun k hk h2 => h.ap k h2 hk)) hu (by omega), fun k hk h2 => ?_, ?_⟩, ?_, ?_⟩
    · rcases hv k hk with h3 | h3
      · exact h.ap k h3 h2
      · have := own_lt h.h1 k h2; omega
    · simp [Sd.at] at hl; simp [Sd.put]; omega
    · exact (hm.mono (T := MbS mb v0 v1) (fun k _ hk => .inr (.inl hk))).setCell (⟨mb, 0, none⟩ : Addr) (.inl (.inl rfl)) _
    · rintro k (rfl | hk | hk)
      · exact .inl (.inl rfl)
      · exact (hv k hk).imp (fun h => .inr (.inl h)) id
      · exact .inl (.inr (.inr hk))
  · refine ⟨v0, v', ⟨hs, own_upd (own_mods h.h0 hm (fun k hk h2 => h.ap k hk h2)) hu (by omega), own_upd hown hu (by omega), fun k hk h2 => ?_, ?_⟩, ?_, ?_⟩
    · rcases hv k h2 with h3 | h3
      · exact h.ap k hk h3
      · have := own_lt h.h0 k hk; omega
    · simp [Sd.at] at hl; simp [Sd.put]; omega
    · exact (hm.mono (T := MbS mb v0 v1) (fun k _ hk => .inr (.inr hk))).setCell (⟨mb, 1, none⟩ : Addr) (.inl (.inl rfl)) _
    · rintro k (rfl | hk | hk)
      · exact .inl (.inl rfl)
      · exact .inl (.inr (.inl hk))
      · exact (hv k hk).imp (fun h => .inr (.inr h)) id

set_option maxHeartbeats 400000 in
theorem mo90 (w : World) (b : Nat) (id s : ByteArray) (l p : Int) (h : w.cell? ⟨b, 0, none⟩ = some (.string id)) :
    Calls Try.prog 90 #[.agg #[.string s, .int .i64 l, .int .i64 p], .pointer (some ⟨b, 0, none⟩)] w fun e w' => e = .returned (.bool (eqB id s)) ∧ Below w.heap.size w w' := by
  have hO := Ob.new w 122 [.string s, .int .i64 l, .int .i64 p]
  have hB : Below w.heap.size w (w.alloc (.cells [.string s, .int .i64 l, .int .i64 p].toArray 122)) := Below.alloc_set
  have h2 := cell_al (.cells [.string s, .int .i64 l, .int .i64 p].toArray 122) h
  have hc := hO.cell
  go_enter Try.func90, Try.ntmps90
  go_wp2
  go_ret
  exact ⟨rfl, hB⟩

set_option maxHeartbeats 1600000 in
theorem mo89 (w : World) (b : Nat) (id : ByteArray) (l : List Mo) (A : Option Addr) (n c : Nat) (hr : Rd w A n 3 (l.flatMap moC)) (hn : l.length = n) (hn9 : n ≤ 100000) (hb : Ob w b 9 [.string id]) :
    Calls Try.prog 89 #[.slice A n c, .func (.func 90) #[] #[.pointer (some ⟨b, 0, none⟩)]] w fun e w' => e = .returned (.int .i64 (frI (mIdx l id) n)) ∧ Below w.heap.size w w' := by
  obtain ⟨F, hF⟩ : ∃ F, mIdx l id = F := ⟨_, rfl⟩
  have HF := Lib.hid hF
  have hFR : F ≤ n := by rw [← hF, ← hn]; exact idxP_le _ _
  have HR := Lib.hid hr
  have HB := Lib.hid hb
  have HL := Lib.hid hn
  rw [hF]
  clear hF hr hb hn
  go_enter Try.func89, Try.ntmps89
  go_wp2_with fail
  go_loopw [8] (fun i wr => ∃ k : Nat, k ≤ F ∧ i = .int .i64 k ∧ Below w.heap.size w wr) (fun i _ => F + 1 - (intOf i).toNat)
  case atStart => exact ⟨0, by omega, rfl, Below.refl _ _⟩
  case round =>
    obtain ⟨k, hk, rfl, hBw⟩ := hrel
    by_cases hlt : k < n
    · obtain ⟨o, ho⟩ : ∃ o, l[k]? = some o := ⟨_, List.getElem?_eq_getElem (by rw [HL.out]; exact hlt)⟩
      obtain ⟨g, off, hA, hgl, hg⟩ := (HR.out.below hBw).2.2 (by omega)
      subst hA
      have x0 := hg _ _ (flat_at moC 3 moC_len l k 0 o ho (by omega))
      have x1 := hg _ _ (flat_at moC 3 moC_len l k 1 o ho (by omega))
      have x2 := hg _ _ (flat_at moC 3 moC_len l k 2 o ho (by omega))
      rw [← Nat.add_assoc] at x0 x1 x2
      have x0 : wr.cell? ⟨g, off + k * 3, none⟩ = some (.string o.id) := x0
      have x1 : wr.cell? ⟨g, off + k * 3 + 1, none⟩ = some (.int .i64 o.left) := x1
      have x2 : wr.cell? ⟨g, off + k * 3 + 2, none⟩ = some (.int .i64 o.price) := x2
      have hb90 := mo90 wr b id o.id o.left o.price ((HB.out.below hBw HB.out.lt).cell 0)
      have HC := Lib.hid hb90
      have HBw := Lib.hid hBw
      by_cases hkF : k < F
      · have he : eqB id o.id = false := idxP_lt (fun o => eqB id o.id) (l := l) (by have := HF.out; unfold mIdx at this; omega) ho
        rw [he] at HC
        clear hg hb90 hBw ho he
        go_wp2_with (go_at_call 90; refine HC.out.mono ?_; rintro e w2 ⟨rfl, hb2⟩)
        go_roundw
        case rel => exact ⟨k + 1, by omega, by go_num, HBw.out.trans (hb2.mono HBw.out.size)⟩
        case measure => simp [intOf]; omega
      · obtain rfl : k = F := by omega
        have he : eqB id o.id = true := idxP_at (fun o => eqB id o.id) (l := l) (by have := HF.out; unfold mIdx at this; rw [this]; exact ho)
        rw [he] at HC
        clear hg hb90 hBw ho he
        go_wp2_with (go_at_call 90; refine HC.out.mono ?_; rintro e w2 ⟨rfl, hb2⟩)
        go_ret
        exact ⟨ret_int (by unfold frI; rw [if_pos hlt]), HBw.out.trans (hb2.mono HBw.out.size)⟩
    · obtain rfl : k = n := by omega
      obtain rfl : k = F := by omega
      have HBw := Lib.hid hBw
      clear hBw
      go_wp2_with fail
      go_ret
      exact ⟨ret_int (by unfold frI; rw [if_neg hlt]), HBw.out⟩

end Go.Proofs.Ytjhlaifflhjafaa
