import Derived.Test.YtfmmaigaanikgaaRj
import Derived.Lib.QuietBelow
import Derived.Deep.CutBlock
import Derived.Outline
namespace Go.Proofs.Ytfmmaigaanikgaa
open Go.RowKit

theorem Calls.regrown_mods {P : Program} {f : FuncId} {args : Array Value} {w : World} {p : Regrown} {v : Value}
    (h : Calls P f args (Sort.grow (redrawn w p.d) p.os) fun e w' => e = .returned v ∧ Mods (fun _ => False) (Sort.grow (redrawn w p.d) p.os) w') : Calls P f args (Sort.grow (redrawn w p.d) p.os) fun e w'' => e = .returned v ∧ ∃ p : Regrown, w'' = Sort.grow (redrawn w p.d) p.os :=
  Calls.regrown_of (h.mono fun _ _ ⟨he, hm⟩ => ⟨he, ⟨hm.os, hm.tape, hm.output, hm.size, fun k hk => hm.block k hk id⟩⟩)
theorem mods_regrown (w : World) (p : Regrown) : Mods (fun _ => False) w (Sort.grow (redrawn w p.d) p.os) := Below.mods_ (below_regrown w p.d p.os) _

/-- RingPlays' state: the program's ring and the document's. -/
structure RPl (T : Nat) (w W : World) (R b g rb : Nat) (xs : List Int) : Prop where
  hI : ∃ first arr, RIAt W b g R first xs arr
  hr : ∃ v, RrAt W rb v R xs ∧ ∀ k, v.ownBlock = some k → k < T
  hb : Below w.heap.size w W
  h1 : w.heap.size ≤ b ∧ w.heap.size ≤ g ∧ b < rb ∧ g < rb
section
variable {T : Nat} {w W W' : World} {R b g rb : Nat} {xs ys : List Int}
theorem RPl.mods (h : RPl T w W R b g rb xs) (hm : Mods (fun _ => False) W W') : RPl T w W' R b g rb xs :=
  ⟨h.hI.elim fun f h => h.elim fun a h => ⟨f, a, h.mods hm id id⟩, h.hr.elim fun v h => ⟨v, h.1.mods hm id (fun _ _ => id), h.2⟩, Below.mods h.hb hm (fun _ h => h.elim) h.hb.size, h.h1⟩
theorem RPl.lt (h : RPl T w W R b g rb xs) : rb < W.heap.size := h.hr.elim fun _ h => h.1.ho.lt
theorem RPl.re (h : RPl T w W R b g rb xs) : RPl W.heap.size w W R b g rb xs := ⟨h.hI, h.hr.elim fun v h => ⟨v, h.1, fun k hk => own_lt h.1.hown k hk⟩, h.hb, h.h1⟩
end
/-- Both rings, the program's holding ys already. -/
structure RPm (T : Nat) (w W : World) (R b g rb : Nat) (ys xs : List Int) : Prop where
  hI : ∃ first arr, RIAt W b g R first ys arr
  hr : ∃ v, RrAt W rb v R xs ∧ ∀ k, v.ownBlock = some k → k < T
  hb : Below w.heap.size w W
  h1 : w.heap.size ≤ b ∧ w.heap.size ≤ g ∧ b < rb ∧ g < rb

def pPush (R : Nat) (xs : List Int) (x : Int) : Int × List Int := if xs.length < R then (0, xs ++ [x]) else (40, xs)
def pPeek (xs : List Int) : Int × Int := match xs with | [] => (0, 50) | x :: _ => (x, 0)
def pPop (xs : List Int) : List Int := xs.drop 1
section
variable {T : Nat} {w W : World} {R b g rb : Nat} {xs : List Int}
theorem RPl.push (h : RPl T w W R b g rb xs) (x : Int) : Calls Try.prog 46 #[.pointer (some ⟨b, 0, none⟩), .int .i64 x] W fun e w' => e = .returned (.int .i64 (pPush R xs x).1) ∧ RPm T w w' R b g rb (pPush R xs x).2 xs ∧ Mods (fun k => k = b ∨ k = g) W w' := by
  obtain ⟨f, a, hI⟩ := h.hI
  obtain ⟨v, hr, hT⟩ := h.hr
  have h1 := h.h1
  have hv : ∀ k, v.ownBlock = some k → ¬ (k = b ∨ k = g) := fun k hk => by have := own_block hr.hown k hk; omega
  unfold pPush
  by_cases hlt : xs.length < R
  · rw [if_pos hlt]
    exact (RIPush_ok W b g R f xs a x hI hlt).mono fun e w' ⟨he, a', h2, h3⟩ => ⟨he, ⟨⟨f, a', h2⟩, ⟨v, hr.mods h3 (by omega) hv, hT⟩, Below.mods h.hb h3 (fun k hk => by omega) h.hb.size, h.h1⟩, h3⟩
  · rw [if_neg hlt]
    exact (RIPush_full W b g R f xs a x hI (by have := hI.hx; omega)).mono fun e w' ⟨he, k, hw⟩ => by subst hw; exact ⟨he, ⟨⟨f, a, hI.drewN k⟩, ⟨v, hr.mods ((Mods.refl (fun _ => False) W).drewN k) id (fun _ _ => id), hT⟩, Below.drewN h.hb k, h.h1⟩, (Mods.refl _ W).drewN k⟩
theorem RPl.pop (h : RPl T w W R b g rb xs) : Calls Try.prog 48 #[.pointer (some ⟨b, 0, none⟩)] W fun e w' => e = .returned (.tuple #[.int .i64 (pPeek xs).1, .int .i64 (pPeek xs).2]) ∧ RPm T w w' R b g rb (pPop xs) xs ∧ Mods (fun k => k = b ∨ k = g) W w' := by
  obtain ⟨f, a, hI⟩ := h.hI
  obtain ⟨v, hr, hT⟩ := h.hr
  have h1 := h.h1
  have hv : ∀ k, v.ownBlock = some k → ¬ (k = b ∨ k = g) := fun k hk => by have := own_block hr.hown k hk; omega
  cases xs with
  | nil => exact (RIPop_empty W b g R f a hI).mono fun e w' ⟨he, hw⟩ => by subst hw; exact ⟨he, ⟨⟨f, a, hI⟩, ⟨v, hr, hT⟩, h.hb, h.h1⟩, Mods.refl _ W⟩
  | cons x q => exact (RIPop_some W b g R f x q a hI).mono fun e w' ⟨he, f', a', h2, h3⟩ => ⟨he, ⟨⟨f', a', h2⟩, ⟨v, hr.mods h3 (by omega) hv, hT⟩, Below.mods h.hb h3 (fun k hk => by omega) h.hb.size, h.h1⟩, h3⟩
theorem RPl.peek (h : RPl T w W R b g rb xs) : Calls Try.prog 50 #[.pointer (some ⟨b, 0, none⟩)] W fun e w' => e = .returned (.tuple #[.int .i64 (pPeek xs).1, .int .i64 (pPeek xs).2]) ∧ Mods (fun _ => False) W w' := by
  obtain ⟨f, a, hI⟩ := h.hI
  cases xs with
  | nil => exact (RIPeek_empty W b g R f a hI).mono fun e w' ⟨he, hw⟩ => by subst hw; exact ⟨he, Mods.refl _ W⟩
  | cons x q => exact (RIPeek_some W b g R f x q a hI).mono fun e w' ⟨he, k, hw⟩ => by subst hw; exact ⟨he, (Mods.refl _ W).drewN k⟩
theorem RPl.rpeek (h : RPl T w W R b g rb xs) : Calls Try.prog 51 #[.pointer (some ⟨rb, 0, none⟩)] W fun e w' => e = .returned (.tuple #[.int .i64 (pPeek xs).1, .int .i64 (pPeek xs).2]) ∧ Mods (fun _ => False) W w' := by
  obtain ⟨v, hr, hT⟩ := h.hr
  cases xs with
  | nil => exact (rrPeek_nil W rb v R hr).mono fun e w' ⟨he, hw⟩ => by subst hw; exact ⟨he, Mods.refl _ W⟩
  | cons x q => exact (rrPeek_cons W rb v R x q hr).mono fun e w' ⟨he, hw⟩ => by subst hw; exact ⟨he, Mods.refl _ W⟩
/-- The document's turn. -/
theorem RPm.rpush {x : Int} (h : RPm T w W R b g rb (pPush R xs x).2 xs) (hR : R ≤ 1024) (hN : rb < T) (cs : List Value) (hO : Ob W T 81 cs) : Calls Try.prog 47 #[.pointer (some ⟨rb, 0, none⟩), .int .i64 x] W fun e w' => e = .returned (.int .i64 (pPush R xs x).1) ∧ RPl w'.heap.size w w' R b g rb (pPush R xs x).2 ∧ Ob w' T 81 cs := by
  obtain ⟨f, a, hI⟩ := h.hI
  obtain ⟨v, hr, hT⟩ := h.hr
  have h1 := h.h1
  have hv : ∀ k, v.ownBlock = some k → rb + 1 ≤ k := fun k hk => own_block hr.hown k hk
  unfold pPush at hI ⊢
  by_cases hlt : xs.length < R
  · rw [if_pos hlt] at hI ⊢
    exact (rrPush_ok W rb v R xs x hr (by omega) (by omega)).mono fun e w' ⟨he, v', h2, h3⟩ => ⟨he, ⟨⟨f, a, hI.mods h3 (fun h => by rcases h with h | h; omega; have := hv _ h; omega) (fun h => by rcases h with h | h; omega; have := hv _ h; omega)⟩, ⟨v', h2, fun k hk => own_lt h2.hown k hk⟩, Below.mods h.hb h3 (fun k hk => by rcases hk with hk | hk; omega; have := hv _ hk; omega) h.hb.size, h.h1⟩, hO.mods h3 (fun h => by rcases h with h | h; omega; have := hT _ h; omega)⟩
  · rw [if_neg hlt] at hI ⊢
    exact (rrPush_full W rb v R xs x hr (by omega)).mono fun e w' ⟨he, k, hw⟩ => by subst hw; exact ⟨he, ⟨⟨f, a, hI.drewN k⟩, ⟨v, hr.mods ((Mods.refl (fun _ => False) W).drewN k) id (fun _ _ => id), fun k hk => own_lt hr.hown k hk⟩, Below.drewN h.hb k, h.h1⟩, hO.drewN k⟩
theorem RPm.rpop (h : RPm T w W R b g rb (pPop xs) xs) : Calls Try.prog 49 #[.pointer (some ⟨rb, 0, none⟩)] W fun e w' => e = .returned (.tuple #[.int .i64 (pPeek xs).1, .int .i64 (pPeek xs).2]) ∧ RPl w'.heap.size w w' R b g rb (pPop xs) := by
  obtain ⟨f, a, hI⟩ := h.hI
  obtain ⟨v, hr, hT⟩ := h.hr
  have h1 := h.h1
  cases xs with
  | nil => exact (rrPop_nil W rb v R hr).mono fun e w' ⟨he, hw⟩ => by subst hw; exact ⟨he, ⟨⟨f, a, hI⟩, ⟨v, hr, fun k hk => own_lt hr.hown k hk⟩, h.hb, h.h1⟩⟩
  | cons x q => exact (rrPop_cons W rb v R x q hr).mono fun e w' ⟨he, v', h2, h3⟩ => ⟨he, ⟨⟨f, a, hI.mods h3 (by omega) (by omega)⟩, ⟨v', h2, fun k hk => own_lt h2.hown k hk⟩, Below.mods h.hb h3 (fun k hk => by omega) h.hb.size, h.h1⟩⟩
end

end Go.Proofs.Ytfmmaigaanikgaa
