import Derived.Test.YteggpdhkpmkldaaBa
import Derived.Deep.RegionHeld3
import Derived.Laws.MakeOwn
namespace Go.Proofs.Yteggpdhkpmkldaa
open Go.RowKit

theorem flat_set {α β : Type} (f : α → List β) (sz : Nat) (hf : ∀ x, (f x).length = sz) : ∀ (l : List α) (pad : List β) (i j : Nat) (x y : α) (v : β), l[i]? = some x → j < sz → f y = (f x).set j v → (l.flatMap f ++ pad).set (i * sz + j) v = (l.set i y).flatMap f ++ pad
  | [], _, i, j, x, y, v, h, _, _ => by simp at h
  | a :: l, pad, 0, j, x, y, v, h, hj, hy => by
    simp at h
    subst h
    simp only [List.flatMap_cons, List.append_assoc, Nat.zero_mul, Nat.zero_add, List.set_cons_zero]
    rw [List.set_append_left _ _ (by rw [hf]; exact hj), hy]
  | a :: l, pad, i + 1, j, x, y, v, h, hj, hy => by
    simp only [List.flatMap_cons, List.append_assoc, List.set_cons_succ]
    rw [List.set_append_right _ _ (by rw [hf, Nat.succ_mul]; omega), hf, show (i + 1) * sz + j - sz = i * sz + j from by rw [Nat.succ_mul]; omega]
    rw [flat_set f sz hf l pad i j x y v (by simpa using h) hj hy]

theorem flat_at_pad {α β : Type} (f : α → List β) (sz : Nat) (hf : ∀ x, (f x).length = sz) (l : List α) (pad : List β) (i j : Nat) (x : α) (h : l[i]? = some x) (hj : j < sz) : (l.flatMap f ++ pad)[i * sz + j]? = (f x)[j]? := by
  have hi : i < l.length := (List.getElem?_eq_some_iff.1 h).1
  have hlt : i * sz + j < l.length * sz := by
    have h1 : (i + 1) * sz ≤ l.length * sz := Nat.mul_le_mul_right sz hi
    rw [Nat.succ_mul] at h1
    omega
  rw [List.getElem?_append_left (by rw [flat_len f sz hf]; exact hlt)]
  exact flat_at f sz hf l i j x h hj

abbrev Purse := Int × Int × Int
abbrev Hold := Bool × Int × Int
def pc (p : Purse) : List Value := [.int .i64 p.1, .int .i64 p.2.1, .int .i64 p.2.2]
def hc (h : Hold) : List Value := [.bool h.1, .int .i64 h.2.1, .int .i64 h.2.2]
def hold0 : Hold := (false, 0, 0)

/-- The book at b: its purses' row at gp, its holds' row at gh. -/
structure BkAt (w : World) (b gp gh cp : Nat) (ps : List Purse) (hs : List Hold) : Prop where
  ho : Ob w b 73 [.slice (some ⟨gp, 0, none⟩) ps.length cp, .slice (some ⟨gh, 0, none⟩) hs.length hs.length]
  hp : ∃ pad, Ob w gp 109 (ps.flatMap pc ++ pad)
  hh : Ob w gh 112 (hs.flatMap hc)
  h1 : b ≠ gp
  h2 : b ≠ gh
  h3 : gp ≠ gh
  hps : 1 ≤ ps.length ∧ ps.length ≤ 16
  hhs : 1 ≤ hs.length ∧ hs.length ≤ 64
theorem BkAt.mods {w w' : World} {b gp gh cp : Nat} {ps : List Purse} {hs : List Hold} {S : Nat → Prop} (h : BkAt w b gp gh cp ps hs) (hm : Mods S w w') (hb : ¬ S b) (hp : ¬ S gp) (hh : ¬ S gh) : BkAt w' b gp gh cp ps hs :=
  ⟨h.1.mods hm hb, h.2.elim fun pad h => ⟨pad, h.mods hm hp⟩, h.3.mods hm hh, h.4, h.5, h.6, h.7, h.8⟩
theorem BkAt.drewN {w : World} {b gp gh cp : Nat} {ps : List Purse} {hs : List Hold} (h : BkAt w b gp gh cp ps hs) (k : Nat) : BkAt (w.drewN k) b gp gh cp ps hs := h.mods ((Mods.refl (fun _ => False) w).drewN k) id id id
theorem BkAt.alloc {w : World} {b gp gh cp : Nat} {ps : List Purse} {hs : List Hold} (h : BkAt w b gp gh cp ps hs) (o : Obj) : BkAt (w.alloc o) b gp gh cp ps hs := h.mods ((Mods.refl (fun _ => False) w).alloc o) id id id
theorem BkAt.pcell {w : World} {b gp gh cp : Nat} {ps : List Purse} {hs : List Hold} (h : BkAt w b gp gh cp ps hs) {a : Nat} {p : Purse} (hp : ps[a]? = some p) (j : Nat) (hj : j < 3) : w.cell? ⟨gp, a * 3 + j, none⟩ = (pc p)[j]? := by
  obtain ⟨pad, hob⟩ := h.hp
  exact (hob.cell _).trans (flat_at_pad pc 3 (fun _ => rfl) ps pad a j p hp hj)
theorem BkAt.hcell {w : World} {b gp gh cp : Nat} {ps : List Purse} {hs : List Hold} (h : BkAt w b gp gh cp ps hs) {a : Nat} {p : Hold} (hp : hs[a]? = some p) (j : Nat) (hj : j < 3) : w.cell? ⟨gh, a * 3 + j, none⟩ = (hc p)[j]? :=
  (h.hh.cell _).trans (flat_at hc 3 (fun _ => rfl) hs a j p hp hj)
theorem BkAt.pfroz {w : World} {b gp gh cp : Nat} {ps : List Purse} {hs : List Hold} (h : BkAt w b gp gh cp ps hs) (j : Nat) : w.frozen? ⟨gp, j, none⟩ = false := by
  obtain ⟨pad, hob⟩ := h.hp
  exact hob.frozen j

set_option maxHeartbeats 400000 in
theorem kWithin (w : World) (n lo hi : Int) : Calls Try.prog 55 #[.int .i64 n, .int .i64 lo, .int .i64 hi] w fun e w' => e = .returned (.bool (decide (lo ≤ n) && decide (n ≤ hi))) ∧ w = w' := by
  by_cases h1 : lo ≤ n
  · go_enter Try.func55, Try.ntmps55
    go_wp2
    go_ret
    exact ⟨ret_bool (by simp; omega), rfl⟩
  · go_enter Try.func55, Try.ntmps55
    go_wp2
    go_ret
    exact ⟨ret_bool (by simp; omega), rfl⟩

set_option maxHeartbeats 400000 in
theorem kIs_nil (w : World) : Calls Try.prog 56 #[.pointer none] w fun e w' => e = .returned (.bool false) ∧ w = w' := by
  go_enter Try.func56, Try.ntmps56
  go_wp2
  go_ret
  exact ⟨rfl, rfl⟩
set_option maxHeartbeats 400000 in
theorem kIs_any (w : World) (b n c : Nat) (A : Option Addr) (r : Bool) (h : w.cell? ⟨b, 0, none⟩ = some (.slice A n c)) (hr : decide (0 < n) = r) : Calls Try.prog 56 #[.pointer (some ⟨b, 0, none⟩)] w fun e w' => e = .returned (.bool r) ∧ w = w' := by
  subst hr
  go_enter Try.func56, Try.ntmps56
  go_wp2
  go_ret
  exact ⟨by simp, rfl⟩

set_option maxHeartbeats 400000 in
theorem kAccount_nil (w : World) (i : Int) : Calls Try.prog 57 #[.pointer none, .int .i64 i] w fun e w' => e = .returned (.bool false) ∧ w = w' := by
  go_enter Try.func57, Try.ntmps57
  go_wp2_with (go_at_call 56; refine (kIs_nil _).mono ?_; rintro e w' ⟨rfl, rfl⟩)
  go_ret
  exact ⟨rfl, rfl⟩
set_option maxHeartbeats 400000 in
theorem kSlot_nil (w : World) (i : Int) : Calls Try.prog 58 #[.pointer none, .int .i64 i] w fun e w' => e = .returned (.bool false) ∧ w = w' := by
  go_enter Try.func58, Try.ntmps58
  go_wp2_with (go_at_call 56; refine (kIs_nil _).mono ?_; rintro e w' ⟨rfl, rfl⟩)
  go_ret
  exact ⟨rfl, rfl⟩
set_option maxHeartbeats 400000 in
theorem kAccount_none (w : World) (b : Nat) (i : Int) (h : w.cell? ⟨b, 0, none⟩ = some (.slice none 0 0)) : Calls Try.prog 57 #[.pointer (some ⟨b, 0, none⟩), .int .i64 i] w fun e w' => e = .returned (.bool false) ∧ w = w' := by
  go_enter Try.func57, Try.ntmps57
  go_wp2_with (go_at_call 56; refine (kIs_any _ b 0 0 none false h rfl).mono ?_; rintro e w' ⟨rfl, rfl⟩)
  go_ret
  exact ⟨rfl, rfl⟩
set_option maxHeartbeats 400000 in
theorem kSlot_none (w : World) (b : Nat) (i : Int) (h : w.cell? ⟨b, 0, none⟩ = some (.slice none 0 0)) : Calls Try.prog 58 #[.pointer (some ⟨b, 0, none⟩), .int .i64 i] w fun e w' => e = .returned (.bool false) ∧ w = w' := by
  go_enter Try.func58, Try.ntmps58
  go_wp2_with (go_at_call 56; refine (kIs_any _ b 0 0 none false h rfl).mono ?_; rintro e w' ⟨rfl, rfl⟩)
  go_ret
  exact ⟨rfl, rfl⟩

def inB (n : Nat) (i : Int) : Bool := decide (0 ≤ i) && decide (i < n)
set_option maxHeartbeats 400000 in
theorem kAccount_any (w : World) (b n c : Nat) (A : Option Addr) (i : Int) (h : w.cell? ⟨b, 0, none⟩ = some (.slice A n c)) (h1 : 1 ≤ n) (h2 : n ≤ 16) (r : Bool) (hr : inB n i = r) : Calls Try.prog 57 #[.pointer (some ⟨b, 0, none⟩), .int .i64 i] w fun e w' => e = .returned (.bool r) ∧ ∃ k, w' = w.drewN k := by
  subst hr
  have hp : decide (0 < n) = true := by simp; omega
  have hw : IntKind.i64.wrap ((n : Int) - 1) = (n : Int) - 1 := by rw [IntWalk.i64_in _ (by omega)]
  have hb : (decide ((0 : Int) ≤ i) && decide (i ≤ (n : Int) - 1)) = inB n i := by unfold inB; congr 1; simp; omega
  go_enter Try.func57, Try.ntmps57
  go_wp2_with (first | (go_at_call 56; refine (kIs_any _ b n c A true h hp).mono ?_; rintro e w' ⟨rfl, rfl⟩) | (go_at_call 55; refine (kWithin _ _ _ _).mono ?_; rintro e w' ⟨rfl, rfl⟩))
  go_ret
  exact ⟨rfl, 0, rfl⟩
set_option maxHeartbeats 400000 in
theorem kSlot_any (w : World) (b n c m d : Nat) (A G : Option Addr) (i : Int) (h : w.cell? ⟨b, 0, none⟩ = some (.slice A n c)) (hg : w.cell? ⟨b, 1, none⟩ = some (.slice G m d)) (h1 : 1 ≤ n) (h2 : m ≤ 64) (r : Bool) (hr : inB m i = r) : Calls Try.prog 58 #[.pointer (some ⟨b, 0, none⟩), .int .i64 i] w fun e w' => e = .returned (.bool r) ∧ ∃ k, w' = w.drewN k := by
  subst hr
  have hp : decide (0 < n) = true := by simp; omega
  have hw : IntKind.i64.wrap ((m : Int) - 1) = (m : Int) - 1 := by rw [IntWalk.i64_in _ (by omega)]
  have hb : (decide ((0 : Int) ≤ i) && decide (i ≤ (m : Int) - 1)) = inB m i := by unfold inB; congr 1; simp; omega
  go_enter Try.func58, Try.ntmps58
  go_wp2_with (first | (go_at_call 56; refine (kIs_any _ b n c A true h hp).mono ?_; rintro e w' ⟨rfl, rfl⟩) | (go_at_call 55; refine (kWithin _ _ _ _).mono ?_; rintro e w' ⟨rfl, rfl⟩))
  go_ret
  exact ⟨rfl, 0, rfl⟩

set_option maxHeartbeats 400000 in
theorem kLeft_any (w : World) (l r d : Int) (h1 : -4611686018427387904 ≤ l - r ∧ l - r ≤ 4611686018427387904) (h2 : -4611686018427387904 ≤ l - r - d ∧ l - r - d ≤ 4611686018427387904) : Calls Try.prog 59 #[.agg #[.int .i64 l, .int .i64 r, .int .i64 d]] w fun e w' => e = .returned (.int .i64 (l - r - d)) ∧ ∃ k, w' = (w.alloc (.cells #[.int .i64 l, .int .i64 r, .int .i64 d] 109)).drewN k := by
  have hw1 : IntKind.i64.wrap (l - r) = l - r := by rw [IntWalk.i64_in _ (by omega)]
  have hw2 : IntKind.i64.wrap (l - r - d) = l - r - d := by rw [IntWalk.i64_in _ (by omega)]
  go_enter Try.func59, Try.ntmps59
  go_wp2
  go_ret
  exact ⟨rfl, 0, rfl⟩

end Go.Proofs.Yteggpdhkpmkldaa
