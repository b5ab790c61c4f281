import Derived.Test.YtjhlaifflhjafaaNc
namespace Go.Proofs.Ytjhlaifflhjafaa
open Go.RowKit

/-- A trade. -/
structure Tr where
  maker : ByteArray
  taker : ByteArray
  qty : Int
  price : Int
def trC (t : Tr) : List Value := [.string t.maker, .string t.taker, .int .i64 t.qty, .int .i64 t.price]
theorem trC_len (t : Tr) : (trC t).length = 4 := rfl
theorem trC_one (t : Tr) : ∀ u ∈ trC t, u.oneCell' = true := by simp [trC, Value.oneCell']
theorem info108 : (Try.prog.info? 108).map (fun i => (i.zero, i.size, i.bytes)) = some (some (.agg #[.string ⟨#[]⟩, .string ⟨#[]⟩, .int .i64 0, .int .i64 0]), 4, 48) := by kernel_rfl

/-- How an order meets the other side. -/
def meetL (side : Int) (id : ByteArray) (p : Int) : Int → List Mo → List Tr → Int × List Mo × List Tr
  | left, [], out => (left, [], out)
  | left, x :: l, out =>
    if 0 < left ∧ goodB side p x.price = true then
      (if left < x.left then (0, { x with left := x.left - left } :: l, out ++ [⟨x.id, id, left, x.price⟩])
       else meetL side id p (left - x.left) l (out ++ [⟨x.id, id, x.left, x.price⟩]))
    else (left, x :: l, out)
theorem meetL_zero (side : Int) (id : ByteArray) (p : Int) (l : List Mo) (out : List Tr) : meetL side id p 0 l out = (0, l, out) := by
  cases l with
  | nil => rfl
  | cons x l => unfold meetL; rw [if_neg (by omega)]
/-- Sorted: nobody ranks behind a worse one. -/
def Srt (side : Int) (l : List Mo) : Prop := l.Pairwise fun a b => btr side b.price a.price = false
def mPos (side p : Int) (l : List Mo) : Nat := idxP (fun x => btr side p x.price) l
def insM (side : Int) (o : Mo) (l : List Mo) : List Mo := putAt (mPos side o.price l) o l
theorem btr_trans {side p a b : Int} (h1 : btr side p a = true) (h2 : btr side b a = false) : btr side p b = true := by
  unfold btr at *
  split at h1 <;> simp_all <;> omega
theorem mPos_ge {side p : Int} {l : List Mo} (hs : Srt side l) {j : Nat} {x : Mo} (h : mPos side p l ≤ j) (hx : l[j]? = some x) : btr side p x.price = true := by
  have hj := (List.getElem?_eq_some_iff.1 hx).1
  have hK : mPos side p l < l.length := by omega
  have hat := idxP_at (fun x : Mo => btr side p x.price) (l := l) (List.getElem?_eq_getElem hK)
  rcases Nat.eq_or_lt_of_le h with h | h
  · subst h
    have : l[mPos side p l]? = some x := hx
    exact idxP_at (fun x : Mo => btr side p x.price) this
  · have hp := List.pairwise_iff_getElem.1 hs _ _ hK hj h
    have hxe := (List.getElem?_eq_some_iff.1 hx).2
    rw [hxe] at hp
    exact btr_trans hat hp
/-- An order meets, and what is left of it rests. -/
def meetM (sd : Nat) (S : Sd) (id : ByteArray) (left p : Int) : List Tr × Sd :=
  ((meetL (sd + 1 : Nat) id p left (S.at (1 - sd)) []).2.2,
   if 0 < (meetL (sd + 1 : Nat) id p left (S.at (1 - sd)) []).1 then
     ((S.put (1 - sd) (meetL (sd + 1 : Nat) id p left (S.at (1 - sd)) []).2.1).put sd (insM (sd + 1 : Nat) ⟨id, (meetL (sd + 1 : Nat) id p left (S.at (1 - sd)) []).1, p⟩ (S.at sd)))
   else S.put (1 - sd) (meetL (sd + 1 : Nat) id p left (S.at (1 - sd)) []).2.1)

theorem own_hd {V : World} {base g n c : Nat} {x : Mo} {xs : List Value} (h : V.ownsRow base 122 3 (.slice (some ⟨g, 0, none⟩) (n + 1) c) (n + 1) (moC x ++ xs)) :
    base ≤ g ∧ n + 1 ≤ c ∧ g < V.heap.size ∧ (∀ i, V.frozen? ⟨g, i, none⟩ = false) ∧ V.cell? ⟨g, 0, none⟩ = some (.string x.id) ∧ V.cell? ⟨g, 1, none⟩ = some (.int .i64 x.left) ∧ V.cell? ⟨g, 2, none⟩ = some (.int .i64 x.price) ∧
    ∀ v, (V.setCell ⟨g, 1, none⟩ (.int .i64 v)).ownsRow base 122 3 (.slice (some ⟨g, 0, none⟩) (n + 1) c) (n + 1) (moC { x with left := v } ++ xs) := by
  obtain ⟨g', cur, hA, hb, hO, h1, h2, h3, h4⟩ := own_ob h (by omega)
  injection hA with hA
  injection hA with hA _ _
  subst hA
  have hcell : ∀ i v, (moC x ++ xs)[i]? = some v → V.cell? ⟨g, i, none⟩ = some v := fun i v hv => by
    rw [hO.cell i]
    rw [← h4, List.getElem?_take] at hv
    split at hv
    · exact hv
    · cases hv
  refine ⟨hb, h1, hO.lt, hO.frozen, hcell 0 _ rfl, hcell 1 _ rfl, hcell 2 _ rfl, fun v => ?_⟩
  exact ob_own hb (hO.set 1 (.int .i64 v)) h1 h2 (by simpa using h3) (by rw [List.take_set, h4]; rfl)

/-- Within meet: what is known of the world. -/
structure MeAt (w : World) (mb : Nat) (v0 v1 : Value) (nm : ByteArray) (p : Int) (W : World) (u0 u1 : Value) (S : Sd) (left : Int) (vo : Value) (out : List Tr) : Prop where
  hb : MbAt W mb u0 u1 S
  ho : Ob W w.heap.size 122 [.string nm, .int .i64 left, .int .i64 p]
  hown : W.ownsRow (w.heap.size + 1) 108 4 vo out.length (out.flatMap trC)
  hm : Mods (MbS mb v0 v1) w W
  hf : ∀ k, MbS mb u0 u1 k → MbS mb v0 v1 k ∨ w.heap.size ≤ k
  hx : ∀ k, MbS mb u0 u1 k → k ≠ w.heap.size ∧ vo.ownBlock ≠ some k
theorem MeAt.gen {w W W' : World} {mb : Nat} {v0 v1 u0 u1 vo : Value} {nm : ByteArray} {p left : Int} {S : Sd} {out : List Tr} (h : MeAt w mb v0 v1 nm p W u0 u1 S left vo out) (hB : Mods (fun _ => False) W W') : MeAt w mb v0 v1 nm p W' u0 u1 S left vo out :=
  ⟨h.hb.mods hB (fun _ _ => id), h.ho.mods hB id, own_mods h.hown hB (fun _ _ => id), h.hm.trans (hB.mono (fun _ _ => False.elim)), h.hf, h.hx⟩
theorem MeAt.app {w W W' : World} {mb : Nat} {v0 v1 u0 u1 vo vo' : Value} {nm : ByteArray} {p left : Int} {S : Sd} {out out' : List Tr} (h : MeAt w mb v0 v1 nm p W u0 u1 S left vo out) (hM : Mods (fun k => vo.ownBlock = some k) W W')
    (hown : W'.ownsRow (w.heap.size + 1) 108 4 vo' out'.length (out'.flatMap trC)) (hv : ∀ k, vo'.ownBlock = some k → vo.ownBlock = some k ∨ W.heap.size ≤ k) : MeAt w mb v0 v1 nm p W' u0 u1 S left vo' out' := by
  have hbl := own_block h.hown
  refine ⟨h.hb.mods hM (fun k hk => (h.hx k hk).2), h.ho.mods hM (fun hk => by have := hbl _ hk; omega), hown, ?_, h.hf, fun k hk => ⟨(h.hx k hk).1, fun hk2 => ?_⟩⟩
  · refine ⟨hM.os.trans h.hm.os, hM.tape.trans h.hm.tape, hM.output.trans h.hm.output, Nat.le_trans h.hm.size hM.size, fun k hk hn => ?_⟩
    rw [hM.block k (Nat.lt_of_lt_of_le hk h.hm.size) (fun hs => by have := hbl _ hs; omega), h.hm.block k hk hn]
  · rcases hv k hk2 with h2 | h2
    · exact (h.hx k hk).2 h2
    · have := (h.hb.lt hk).2; omega
theorem MeAt.setL {w W : World} {mb : Nat} {v0 v1 u0 u1 vo : Value} {nm : ByteArray} {p left : Int} {S : Sd} {out : List Tr} (h : MeAt w mb v0 v1 nm p W u0 u1 S left vo out) (v : Int) : MeAt w mb v0 v1 nm p (W.setCell ⟨w.heap.size, 1, none⟩ (.int .i64 v)) u0 u1 S v vo out := by
  have hM : Mods (fun k => k = w.heap.size) W (W.setCell ⟨w.heap.size, 1, none⟩ (.int .i64 v)) := (Mods.refl (fun k => k = w.heap.size) W).setCell (⟨w.heap.size, 1, none⟩ : Addr) (.inl rfl) _
  refine ⟨h.hb.mods hM (fun k hk => (h.hx k hk).1), h.ho.set 1 _, own_mods h.hown hM (fun k hk e => by have := own_block h.hown k hk; omega), ?_, h.hf, h.hx⟩
  refine ⟨hM.os.trans h.hm.os, hM.tape.trans h.hm.tape, hM.output.trans h.hm.output, Nat.le_trans h.hm.size hM.size, fun k hk hn => ?_⟩
  rw [hM.block k (Nat.lt_of_lt_of_le hk h.hm.size) (by omega), h.hm.block k hk hn]
/-- The book is turned by what is its own alone. -/
theorem MeAt.to {w W W' : World} {mb : Nat} {v0 v1 u0 u1 vo u0' u1' : Value} {nm : ByteArray} {p left : Int} {S S' : Sd} {out : List Tr} (h : MeAt w mb v0 v1 nm p W u0 u1 S left vo out) (a : MbAt W' mb u0' u1' S') (b : Mods (MbS mb u0 u1) W W') (c : ∀ k, MbS mb u0' u1' k → MbS mb u0 u1 k ∨ W.heap.size ≤ k) :
    MeAt w mb v0 v1 nm p W' u0' u1' S' left vo out := by
  refine ⟨a, h.ho.mods b (fun hk => (h.hx _ hk).1 rfl), own_mods h.hown b (fun k hk hk2 => (h.hx k hk2).2 hk), ?_, fun k hk => ?_, fun k hk => ?_⟩
  · refine ⟨b.os.trans h.hm.os, b.tape.trans h.hm.tape, b.output.trans h.hm.output, Nat.le_trans h.hm.size b.size, fun k hk hn => ?_⟩
    rw [b.block k (Nat.lt_of_lt_of_le hk h.hm.size) (fun hs => ?_), h.hm.block k hk hn]
    rcases h.hf k hs with h | h
    · exact hn h
    · omega
  · rcases c k hk with h2 | h2
    · exact h.hf k h2
    · exact .inr (Nat.le_trans h.hm.size h2)
  · rcases c k hk with h2 | h2
    · exact h.hx k h2
    · exact ⟨fun e => by have := h.ho.lt; omega, fun e => by have := own_lt h.hown k e; omega⟩
/-- One cell of the book's own rows was written. -/
theorem MbAt.cell0 {W : World} {mb g i : Nat} {u0 u1 v : Value} {S : Sd} {l : List Mo} (h : MbAt W mb u0 u1 S) (hg : u0.ownBlock = some g) (hl : l.length = S.1.length) (hown : (W.setCell ⟨g, i, none⟩ v).ownsRow (mb + 1) 122 3 u0 l.length (l.flatMap moC)) : MbAt (W.setCell ⟨g, i, none⟩ v) mb u0 u1 (l, S.2) ∧ Mods (MbS mb u0 u1) W (W.setCell ⟨g, i, none⟩ v) := by
  have hM : Mods (fun k => u0.ownBlock = some k) W (W.setCell ⟨g, i, none⟩ v) := (Mods.refl _ W).setCell (⟨g, i, none⟩ : Addr) (.inl hg) _
  exact ⟨⟨h.ho.mods hM (fun hk => by have := own_block h.h0 _ hk; omega), hown, own_mods h.h1 hM (fun k hk h2 => h.ap k h2 hk), h.ap, by have := h.hn; simp only [hl]; exact this⟩, hM.mono (fun k _ hk => .inr (.inl hk))⟩
theorem MbAt.cell1 {W : World} {mb g i : Nat} {u0 u1 v : Value} {S : Sd} {l : List Mo} (h : MbAt W mb u0 u1 S) (hg : u1.ownBlock = some g) (hl : l.length = S.2.length) (hown : (W.setCell ⟨g, i, none⟩ v).ownsRow (mb + 1) 122 3 u1 l.length (l.flatMap moC)) : MbAt (W.setCell ⟨g, i, none⟩ v) mb u0 u1 (S.1, l) ∧ Mods (MbS mb u0 u1) W (W.setCell ⟨g, i, none⟩ v) := by
  have hM : Mods (fun k => u1.ownBlock = some k) W (W.setCell ⟨g, i, none⟩ v) := (Mods.refl _ W).setCell (⟨g, i, none⟩ : Addr) (.inl hg) _
  exact ⟨⟨h.ho.mods hM (fun hk => by have := own_block h.h1 _ hk; omega), own_mods h.h0 hM (fun k hk h2 => h.ap k hk h2), hown, h.ap, by have := h.hn; simp only [hl]; exact this⟩, hM.mono (fun k _ hk => .inr (.inr hk))⟩

end Go.Proofs.Ytjhlaifflhjafaa
