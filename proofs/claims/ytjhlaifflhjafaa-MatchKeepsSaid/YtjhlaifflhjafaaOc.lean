import Derived.Test.YtjhlaifflhjafaaOa
namespace Go.Proofs.Ytjhlaifflhjafaa
open Go.RowKit Go.Maps

/-- MatchKeeps, behind an op: the book, the limits, the op's box, the trades. -/
structure KwAt (w Z : World) (mb gm N B : Nat) (S : Sd) (l : SlO) (cs : List Value) (vt : Value) (m : Nat) (xs : List Value) : Prop where
  ke : KeAt w Z mb gm S l
  mb : ∃ u0 u1, MbAt Z mb u0 u1 S ∧ ∀ j, MbS mb u0 u1 j → j ≠ gm ∧ j ≠ N
  ob : Ob Z N 90 cs
  tr : Z.ownsRow B 108 4 vt m xs
  gN : gm ≠ N
  gB : gm < B
  NB : N < B
  wN : w.heap.size ≤ N
theorem KwAt.below {w Z Z' : World} {mb gm N B : Nat} {S : Sd} {l : SlO} {cs : List Value} {vt : Value} {m : Nat} {xs : List Value} (h : KwAt w Z mb gm N B S l cs vt m xs) (hb : Below Z.heap.size Z Z') : KwAt w Z' mb gm N B S l cs vt m xs := by
  obtain ⟨u0, u1, h1, h2⟩ := h.mb
  exact ⟨h.ke.below hb, ⟨u0, u1, h1.below hb, h2⟩, h.ob.below hb h.ob.lt, own_mods h.tr (Below.mods_ hb (fun _ => False)) (fun _ _ e => e), h.gN, h.gB, h.NB, h.wN⟩
theorem KwAt.store {w Z Z' : World} {mb gm N B : Nat} {S : Sd} {l l' : SlO} {cs : List Value} {vt : Value} {m : Nat} {xs : List Value} (h : KwAt w Z mb gm N B S l cs vt m xs) (hm : MqAt Z' gm l') (ht : Z.mapTurned Z' gm) : KwAt w Z' mb gm N B S l' cs vt m xs := by
  have hM := turned_mods ht
  obtain ⟨u0, u1, h1, h2⟩ := h.mb
  exact ⟨h.ke.store hm ht, ⟨u0, u1, h1.mods hM (fun k hk e => (h2 k hk).1 e), h2⟩, h.ob.mods hM (fun e => h.gN e.symm), own_mods h.tr hM (fun k hk e => by have := own_block h.tr k hk; have := h.gB; omega), h.gN, h.gB, h.NB, h.wN⟩
theorem KwAt.setN {w Z : World} {mb gm N B : Nat} {S : Sd} {l : SlO} {cs : List Value} {vt : Value} {m : Nat} {xs : List Value} (h : KwAt w Z mb gm N B S l cs vt m xs) (i : Nat) (v : Value) : KwAt w (Z.setCell ⟨N, i, none⟩ v) mb gm N B S l (cs.set i v) vt m xs := by
  have hu := (Upd.refl N Z).set i v
  have hM : Mods (fun k => k = N) Z (Z.setCell ⟨N, i, none⟩ v) := hu.mods rfl
  obtain ⟨u0, u1, h1, h2⟩ := h.mb
  refine ⟨⟨⟨u0, u1, h1.mods hM (fun k hk e => (h2 k hk).2 e), fun k hk => (h2 k hk).1⟩, h.ke.hm.mods hM (fun e => h.gN e), Below.mods h.ke.hB hM (fun k e => by rw [e]; exact h.wN) h.ke.hB.size, h.ke.b1, h.ke.b2⟩, ⟨u0, u1, h1.mods hM (fun k hk e => (h2 k hk).2 e), h2⟩, h.ob.set i v, own_upd h.tr hu h.NB, h.gN, h.gB, h.NB, h.wN⟩
theorem leftM_bnd {S : Sd} (h : MbOk S) (nm : ByteArray) : 0 ≤ (leftM S nm).1 ∧ (leftM S nm).1 ≤ 1099511627776 := by
  unfold leftM
  split
  · rename_i o ho
    have := h.b1 o (List.mem_of_getElem? ho)
    exact ⟨by simp only; omega, this.2⟩
  · split
    · rename_i o ho
      have := h.b2 o (List.mem_of_getElem? ho)
      exact ⟨by simp only; omega, this.2⟩
    · simp
theorem tr_cells {W : World} {A : Option Addr} {n : Nat} {M : List Tr} (h : Rd W A n 4 (M.flatMap trC)) {j : Nat} {x : Tr} (hj : j < n) (hx : M[j]? = some x) :
    ∃ g off, A = some ⟨g, off, none⟩ ∧ W.cell? ⟨g, off + j * 4, none⟩ = some (.string x.maker) ∧ W.cell? ⟨g, off + j * 4 + 1, none⟩ = some (.string x.taker) ∧ W.cell? ⟨g, off + j * 4 + 2, none⟩ = some (.int .i64 x.qty) ∧ W.cell? ⟨g, off + j * 4 + 3, none⟩ = some (.int .i64 x.price) := by
  obtain ⟨g, off, hA, -, hg⟩ := h.2.2 (by omega)
  refine ⟨g, off, hA, ?_, ?_, ?_, ?_⟩
  · exact hg _ _ (flat_at trC 4 trC_len M j 0 x hx (by omega))
  · rw [Nat.add_assoc]; exact hg _ _ (flat_at trC 4 trC_len M j 1 x hx (by omega))
  · rw [Nat.add_assoc]; exact hg _ _ (flat_at trC 4 trC_len M j 2 x hx (by omega))
  · rw [Nat.add_assoc]; exact hg _ _ (flat_at trC 4 trC_len M j 3 x hx (by omega))
theorem qtyS_succ {M : List Tr} {j : Nat} {x : Tr} (hx : M[j]? = some x) : qtyS (M.take (j + 1)) = qtyS (M.take j) + x.qty := by
  rw [List.take_add_one, hx, qtyS_app]
  simp [qtyS]
theorem qtyS_take (M : List Tr) (j : Nat) (h : ∀ t ∈ M, 1 ≤ t.qty) : 0 ≤ qtyS (M.take j) ∧ qtyS (M.take j) ≤ qtyS M := by
  have h0 : ∀ L : List Tr, (∀ t ∈ L, 1 ≤ t.qty) → 0 ≤ qtyS L := by
    intro L
    induction L with
    | nil => intro _; simp [qtyS]
    | cons a L ih =>
      intro hL
      have h1 := hL a (List.mem_cons_self ..)
      have h2 := ih (fun t ht => hL t (List.mem_cons_of_mem _ ht))
      have : qtyS (a :: L) = a.qty + qtyS L := by simp [qtyS]
      omega
  have e : qtyS M = qtyS (M.take j) + qtyS (M.drop j) := by rw [← qtyS_app, List.take_append_drop]
  have h1 := h0 (M.take j) (fun t ht => h t (List.mem_of_mem_take ht))
  have h2 := h0 (M.drop j) (fun t ht => h t (List.mem_of_mem_drop ht))
  omega

end Go.Proofs.Ytjhlaifflhjafaa
