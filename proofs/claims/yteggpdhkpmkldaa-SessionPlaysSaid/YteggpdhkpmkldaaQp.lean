import Derived.Test.YteggpdhkpmkldaaQo
namespace Go.Proofs.Yteggpdhkpmkldaa
open Go.RowKit

/-- SessionRows' loop: the session, what went in (the first out of it are out again), how many replies were taken. -/
structure SRw (w W : World) (sb rb g R : Nat) (v : Value) (I : List Od) (out tk k : Nat) : Prop where
  hs : ∃ first arr down, SsAt W sb rb g R first (I.drop out) arr I.length tk 0 down
  hown : W.ownsRow (sb + 1) 85 7 v I.length (I.flatMap Od.cells)
  hb : Below w.heap.size w W
  ho : out ≤ I.length
  hi : I.length ≤ k
  ht : tk ≤ k
  b1 : w.heap.size ≤ sb
  b2 : w.heap.size ≤ rb
  b3 : w.heap.size ≤ g
  l1 : rb < sb
  l2 : g < sb
theorem SRw.hi1 {w W : World} {sb rb g R : Nat} {v : Value} {I : List Od} {out tk k : Nat} (h : SRw w W sb rb g R v I out tk k) : SRw w W sb rb g R v I out tk (k + 1) :=
  ⟨h.hs, h.hown, h.hb, h.ho, Nat.le_succ_of_le h.hi, Nat.le_succ_of_le h.ht, h.b1, h.b2, h.b3, h.l1, h.l2⟩
theorem SRw.sbl {w W : World} {sb rb g R : Nat} {v : Value} {I : List Od} {out tk k : Nat} (h : SRw w W sb rb g R v I out tk k) : sb < W.heap.size := by
  obtain ⟨f, a, d, hs⟩ := h.hs; exact hs.hse.ho.lt
theorem SRw.below {w W W' : World} {sb rb g R : Nat} {v : Value} {I : List Od} {out tk k : Nat} (h : SRw w W sb rb g R v I out tk k) (hb : Below W.heap.size W W') : SRw w W' sb rb g R v I out tk k :=
  ⟨by obtain ⟨f, a, d, hs⟩ := h.hs; exact ⟨f, a, d, hs.below hb⟩, own_mods h.hown (Below.mods_ hb (fun _ => False)) (fun _ _ => id), h.hb.trans (hb.mono h.hb.size), h.ho, h.hi, h.ht, h.b1, h.b2, h.b3, h.l1, h.l2⟩
/-- The session's step. -/
theorem SRw.step {w W W' : World} {sb rb g R : Nat} {v : Value} {I : List Od} {out tk out' tk' k : Nat} (h : SRw w W sb rb g R v I out tk k) {S : Nat → Prop} (hm : Mods S W W') (hS : ∀ i, S i → i = sb ∨ i = rb ∨ i = g)
    (hs : ∃ first arr down, SsAt W' sb rb g R first (I.drop out') arr I.length tk' 0 down) (ho : out' ≤ I.length) (ht : tk' ≤ k) : SRw w W' sb rb g R v I out' tk' k := by
  have hl1 := h.l1
  have hl2 := h.l2
  have hb1 := h.b1
  have hb2 := h.b2
  have hb3 := h.b3
  refine ⟨hs, own_mods h.hown hm (fun q hq hs => ?_), Below.mods h.hb hm (fun q hq => ?_) h.hb.size, ho, h.hi, ht, h.b1, h.b2, h.b3, h.l1, h.l2⟩
  · have := own_block h.hown q hq
    have := hS q hs
    omega
  · have := hS q hq
    omega
theorem SRw.push {w W W2 W' : World} {sb rb g R : Nat} {v v' : Value} {I : List Od} {x : Od} {out tk k : Nat} (h : SRw w W sb rb g R v I out tk k) {S : Nat → Prop} (hm : Mods S W W2) (hS : ∀ i, S i → i = sb ∨ i = rb ∨ i = g ∨ W.heap.size ≤ i)
    (hs : ∃ first arr down, SsAt W2 sb rb g R first (I.drop out ++ [x]) arr (I.length + 1) tk 0 down) (hg : W2.grownBy W' v.ownBlock)
    (hown : W'.ownsRow (sb + 1) 85 7 v' (I.length + 1) (I.flatMap Od.cells ++ x.cells)) : SRw w W' sb rb g R v' (I ++ [x]) out tk (k + 1) := by
  have hl1 := h.l1
  have hl2 := h.l2
  have hb1 := h.b1
  have hb2 := h.b2
  have hb3 := h.b3
  have hbw := h.hb.size
  have hob := own_block h.hown
  refine ⟨?_, by simpa using hown, ?_, by have := h.ho; simp; omega, by have := h.hi; simp; omega, Nat.le_succ_of_le h.ht, h.b1, h.b2, h.b3, h.l1, h.l2⟩
  · obtain ⟨f, a, d, hs⟩ := hs
    refine ⟨f, a, d, ?_⟩
    rw [List.drop_append_of_le_length h.ho, List.length_append, List.length_singleton]
    refine SsAt.mods hs ((Mods.refl (fun q => v.ownBlock = some q) W2).grown hg (fun q hq => .inl hq)) ?_ ?_ ?_
    · intro hq; have := hob _ hq; omega
    · intro hq; have := hob _ hq; omega
    · intro hq; have := hob _ hq; omega
  · have hB2 : Below w.heap.size w W2 := Below.mods h.hb hm (fun q hq => by have := hS q hq; omega) h.hb.size
    exact hB2.grown hg hB2.size (fun q hq => by have := hob _ hq; omega)

end Go.Proofs.Yteggpdhkpmkldaa
