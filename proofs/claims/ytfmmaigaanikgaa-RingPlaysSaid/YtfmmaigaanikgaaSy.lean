import Derived.Test.YtfmmaigaanikgaaSx
namespace Go.Proofs.Ytfmmaigaanikgaa
open Go.RowKit

theorem Ob.grown {w w' : World} {b : Nat} {t : TypeId} {cs : List Value} {row : Option Nat} (h : Ob w b t cs) (hg : w.grownBy w' row) (hne : ∀ k, row = some k → b ≠ k) : Ob w' b t cs := by
  unfold Ob; rw [hg.block b h.lt (fun e => hne b e.symm rfl)]; exact h
theorem own_shape {w : World} {base n size : Nat} {e : TypeId} {v : Value} {xs : List Value} (h : w.ownsRow base e size v n xs) : ∃ A c, v = .slice A n c ∧ Rd w A n size xs ∧ n ≤ c ∧ c ≤ 9223372036854775807 := by
  have h' := h
  rcases h.2 with ⟨rfl, rfl⟩ | ⟨g, cap, cur, rfl, _, _, h1, h2, _⟩
  · exact ⟨none, 0, rfl, Rd.of_own h', Nat.le_refl _, by omega⟩
  · simp only [maxLen] at h2
    exact ⟨_, cap, rfl, Rd.of_own h', h1, by omega⟩
theorem own_block {w : World} {base n size : Nat} {e : TypeId} {v : Value} {xs : List Value} (h : w.ownsRow base e size v n xs) (k : Nat) (hk : v.ownBlock = some k) : base ≤ k := by
  rcases h.2 with ⟨rfl, _⟩ | ⟨g, cap, cur, rfl, hb, _⟩
  · simp [Value.ownBlock] at hk
  · have : g = k := by simpa [Value.ownBlock] using hk
    omega
theorem own_upd {w w' : World} {base n size s : Nat} {e : TypeId} {v : Value} {xs : List Value} (h : w.ownsRow base e size v n xs) (hu : Upd s w w') (hs : s < base) : w'.ownsRow base e size v n xs := by
  refine h.kept hu ?_
  cases hb : v.ownBlock with
  | none => exact .inl rfl
  | some k => exact .inr (fun e => by have := own_block h k hb; injection e; omega)
theorem own_nil (W : World) (base : Nat) (e : TypeId) (size : Nat) : W.ownsRow base e size (.slice none 0 0) 0 [] := ⟨by simp, .inl ⟨rfl, rfl⟩⟩
theorem own_drewN {w : World} {base n size : Nat} {e : TypeId} {v : Value} {xs : List Value} (h : w.ownsRow base e size v n xs) (k : Nat) : (w.drewN k).ownsRow base e size v n xs := h
theorem info35 : (Try.prog.info? 35).map (fun i => (i.zero, i.size, i.bytes)) = some (some (.agg #[.int .i64 0, .int .i64 0, .int .i64 0]), 3, 24) := by kernel_rfl

/-- The play at round k: the streak's block, the list of all. -/
def PlayAt (B s : Nat) (w wr : World) (m : Int) (v : Value) (k : Nat) : Prop :=
  ∃ (fl : List (Int × Int × Int)) (f : Int × Int × Int), Ob wr s 42 [.int .i64 m, .int .i64 f.1, .int .i64 f.2.1, .int .i64 f.2.2, .int .i64 (cntL fl), .bool (tripL fl m)] ∧ wr.ownsRow (s + 1) 35 3 v fl.length (fl.flatMap fcells) ∧
    fl.length ≤ k ∧ (fl ≠ [] → fl.getLast? = some f) ∧ B ≤ s ∧ Below B w wr

theorem cntL_le (l : List (Int × Int × Int)) : cntL l ≤ l.length := by
  unfold cntL
  have hl : ∀ f (r : List (Int × Int × Int)), lead f r ≤ r.length := by
    intro f r
    induction r with
    | nil => simp [lead]
    | cons a r ih => unfold lead; split <;> simp; omega
  have e : l.length = l.reverse.length := by simp
  rw [e]
  cases l.reverse with
  | nil => simp
  | cons a r => have := hl a r; simp; omega

theorem nc_last (fl : List (Int × Int × Int)) (f g : Int × Int × Int) (h : fl ≠ [] → fl.getLast? = some f) : nc (cntL fl) (sameB g.1 g.2.1 g.2.2 f.1 f.2.1 f.2.2) = cntL (fl ++ [g]) := by
  rw [cntL_snoc, sameB_iff]
  rcases fl with _ | ⟨a, l⟩
  · simp [cntL, nc]
  · have := h (by simp)
    congr 1
    unfold lastIs
    rw [this]
    simp [eq_comm]

end Go.Proofs.Ytfmmaigaanikgaa
