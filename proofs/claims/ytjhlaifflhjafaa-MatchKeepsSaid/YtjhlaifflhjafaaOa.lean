import Derived.Test.YtjhlaifflhjafaaNz
namespace Go.Proofs.Ytjhlaifflhjafaa
open Go.RowKit Go.Maps

/-- MatchKeeps' loop: the book and the limits. -/
structure KeAt (w W : World) (mb gm : Nat) (S : Sd) (l : SlO) : Prop where
  hb : ∃ v0 v1, MbAt W mb v0 v1 S ∧ ∀ k, MbS mb v0 v1 k → k ≠ gm
  hm : MqAt W gm l
  hB : Below w.heap.size w W
  b1 : w.heap.size ≤ mb
  b2 : w.heap.size ≤ gm
theorem KeAt.below {w W W' : World} {mb gm : Nat} {S : Sd} {l : SlO} (h : KeAt w W mb gm S l) (hb : Below W.heap.size W W') : KeAt w W' mb gm S l := by
  obtain ⟨v0, v1, h1, h2⟩ := h.hb
  exact ⟨⟨v0, v1, h1.below hb, h2⟩, h.hm.below hb h.hm.lt, h.hB.trans (hb.mono h.hB.size), h.b1, h.b2⟩
theorem KeAt.to {w W W' : World} {mb gm : Nat} {S S' : Sd} {l : SlO} {v0 v1 : Value} (h : KeAt w W mb gm S l) (h1 : MbAt W mb v0 v1 S) (h2 : ∀ k, MbS mb v0 v1 k → k ≠ gm) (ht : MbTo W mb v0 v1 S' W') : KeAt w W' mb gm S' l := by
  have hB := ht.below h1 h.hB h.b1
  obtain ⟨u0, u1, a, b, c⟩ := ht
  refine ⟨⟨u0, u1, a, fun k hk e => ?_⟩, h.hm.mods b (fun hk => h2 _ hk rfl), hB, h.b1, h.b2⟩
  rcases c k hk with h3 | h3
  · exact h2 k h3 e
  · have := h.hm.lt; omega
theorem KeAt.store {w W W' : World} {mb gm : Nat} {S : Sd} {l l' : SlO} (h : KeAt w W mb gm S l) (hm : MqAt W' gm l') (ht : W.mapTurned W' gm) : KeAt w W' mb gm S l' := by
  have hM := turned_mods ht
  obtain ⟨v0, v1, h1, h2⟩ := h.hb
  exact ⟨⟨v0, v1, h1.mods hM (fun k hk e => h2 k hk e), h2⟩, hm, Below.mods h.hB hM (fun k hk => by rw [hk]; exact h.b2) h.hB.size, h.b1, h.b2⟩

end Go.Proofs.Ytjhlaifflhjafaa
