import Derived.Test.YteggpdhkpmkldaaJg
import Derived.Deep.RegionHeld3
namespace Go.Proofs.Yteggpdhkpmkldaa
open Go.RowKit Go.Maps

/-! The document's list. -/
def entC (e : ByteArray × Ex) : List Value := [.string e.1, .string e.2.od, .int .i64 e.2.q, .int .i64 e.2.p, .bool e.2.bu]
def fnd : Sl → ByteArray → Option Nat
  | [], _ => none
  | (k, _) :: r, nm => if k = nm then some 0 else (fnd r nm).map (· + 1)
def fI (l : Sl) (nm : ByteArray) : Int := match fnd l nm with | none => -1 | some i => i
theorem fnd_none {l : Sl} {nm : ByteArray} (h : ∀ (j : Nat) (e : ByteArray × Ex), l[j]? = some e → e.1 ≠ nm) : fnd l nm = none := by
  induction l with
  | nil => rfl
  | cons a r ih =>
    obtain ⟨k, x⟩ := a
    have h0 := h 0 (k, x) rfl
    simp only [fnd]
    rw [if_neg h0, ih (fun j e he => h (j + 1) e (by simpa using he))]
    rfl
theorem fnd_some {l : Sl} {nm : ByteArray} {i : Nat} {x : Ex} (h : ∀ (j : Nat) (e : ByteArray × Ex), j < i → l[j]? = some e → e.1 ≠ nm) (hi : l[i]? = some (nm, x)) : fnd l nm = some i := by
  induction l generalizing i with
  | nil => simp at hi
  | cons a r ih =>
    obtain ⟨k, y⟩ := a
    simp only [fnd]
    cases i with
    | zero => simp at hi; rw [if_pos hi.1]
    | succ i =>
      have h0 := h 0 (k, y) (by omega) rfl
      rw [if_neg h0, ih (i := i) (fun j e hj he => h (j + 1) e (by omega) (by simpa using he)) (by simpa using hi)]
      rfl
theorem fnd_look (l : Sl) (nm : ByteArray) : match fnd l nm with | none => look l nm = none ∧ ∀ x, put l nm x = l ++ [(nm, x)] | some i => i < l.length ∧ ∃ y, l[i]? = some (nm, y) ∧ look l nm = some y ∧ ∀ x, put l nm x = l.set i (nm, x) := by
  induction l with
  | nil => simp [fnd, look, put]
  | cons a r ih =>
    obtain ⟨k, y⟩ := a
    simp only [fnd]
    by_cases hk : k = nm
    · subst hk
      rw [if_pos rfl]
      exact ⟨by simp, y, rfl, by simp [look], fun x => by simp [put]⟩
    · rw [if_neg hk]
      cases hf : fnd r nm with
      | none =>
        rw [hf] at ih
        refine ⟨by simp [look, hk, ih.1], fun x => by simp [put, hk, ih.2 x]⟩
      | some i =>
        rw [hf] at ih
        obtain ⟨h1, z, h2, h3, h4⟩ := ih
        refine ⟨by simp; omega, z, by simpa using h2, by simp [look, hk, h3], fun x => by simp [put, hk, h4 x]⟩

/-- The document's object at rb; its list's slice value v. -/
structure RsAt (w : World) (rb : Nat) (v : Value) (room : Int) (l : Sl) : Prop where
  ho : Ob w rb 32 [.int .i64 room, v]
  hown : w.ownsRow (rb + 1) 45 5 v l.length (l.flatMap entC)
  hx : l.length ≤ 4096
theorem RsAt.mods {w w' : World} {rb : Nat} {v : Value} {room : Int} {l : Sl} {S : Nat → Prop} (h : RsAt w rb v room l) (hm : Mods S w w') (h1 : ¬ S rb) (h2 : ∀ k, v.ownBlock = some k → ¬ S k) : RsAt w' rb v room l :=
  ⟨h.ho.mods hm h1, own_mods h.hown hm h2, h.hx⟩
theorem RsAt.below {w w' : World} {rb : Nat} {v : Value} {room : Int} {l : Sl} (h : RsAt w rb v room l) (hb : Below w.heap.size w w') : RsAt w' rb v room l :=
  h.mods (Below.mods_ hb (fun _ => False)) id (fun _ _ => id)
theorem ent_cells {w : World} {A : Option Addr} {n : Nat} {l : Sl} (hr : Rd w A n 5 (l.flatMap entC)) {k : Nat} {x : ByteArray × Ex} (hk : k < n) (hx : l[k]? = some x) :
    ∃ g off, A = some ⟨g, off, none⟩ ∧ g < w.heap.size ∧ ∀ j, j < 5 → w.cell? ⟨g, off + k * 5 + j, none⟩ = (entC x)[j]? := by
  obtain ⟨g, off, hA, hl, hc⟩ := hr.2.2 (by omega)
  refine ⟨g, off, hA, hl, fun j hj => ?_⟩
  have h1 := flat_at entC 5 (fun _ => rfl) l k j x hx hj
  have hjl : j < (entC x).length := hj
  rw [List.getElem?_eq_getElem hjl] at h1 ⊢
  rw [Nat.add_assoc]
  exact hc _ _ h1

set_option maxHeartbeats 1600000 in
set_option maxRecDepth 100000 in
theorem rsFind (w : World) (rb : Nat) (v : Value) (room : Int) (l : Sl) (nm : ByteArray) (h : RsAt w rb v room l) :
    Calls Try.prog 21 #[.pointer (some ⟨rb, 0, none⟩), .string nm] w fun e w' => e = .returned (.int .i64 (fI l nm)) ∧ w = w' := by
  obtain ⟨A, c, rfl, hR, hc1, hc2⟩ := own_shape h.hown
  have hc := h.ho.cell
  have hx9 := h.hx
  obtain ⟨fi, hfi⟩ : ∃ fi, fI l nm = fi := ⟨_, rfl⟩
  rw [hfi]
  have HF := Lib.hid hfi
  have HR := Lib.hid hR
  generalize hn : l.length = n at *
  have Hn := Lib.hid hn
  clear h hR hfi hn
  go_enter Try.func21, Try.ntmps21
  go_wp2_with fail
  go_loopw [5] (fun i wr => ∃ (k : Nat), k ≤ n ∧ i = .int .i64 k ∧ (∀ (j : Nat) (e : ByteArray × Ex), j < k → l[j]? = some e → e.1 ≠ nm) ∧ wr = w) (fun i _ => n - (intOf i).toNat)
  case atStart => exact ⟨0, by omega, rfl, fun j e hj => by omega, rfl⟩
  case round =>
    obtain ⟨k, hk, rfl, hall, rfl⟩ := hrel
    have HA := Lib.hid hall
    clear hall
    by_cases hlt : k < n
    · obtain ⟨x, hx⟩ : ∃ x, l[k]? = some x := ⟨_, List.getElem?_eq_getElem (by have := Hn.out; omega)⟩
      obtain ⟨g, off, hA, hbl, hcell⟩ := ent_cells HR.out hlt hx
      subst hA
      obtain ⟨kn, kx⟩ := x
      have a0 : wr.cell? ⟨g, off + k * 5, none⟩ = some (.string kn) := hcell 0 (by omega)
      have HX := Lib.hid hx
      clear hcell hx
      by_cases he : kn = nm
      · subst he
        have hfk : fi = (k : Int) := by rw [← HF.out]; unfold fI; rw [fnd_some HA.out HX.out]
        have HFK := Lib.hid hfk
        clear hfk
        go_wp2_with fail
        go_ret
        rw [HFK.out]
        exact ⟨rfl, rfl⟩
      · have heb : (kn.toList == nm.toList) = false := by
          rw [beq_eq_false_iff_ne]
          intro h
          exact he (toList_inj h)
        have HA2 : Hid (∀ (j : Nat) (e : ByteArray × Ex), j < k + 1 → l[j]? = some e → e.1 ≠ nm) := Lib.hid (fun j e hj hje => by
          rcases Nat.lt_or_ge j k with h | h
          · exact HA.out j e h hje
          · have : j = k := by omega
            subst this
            rw [HX.out] at hje
            injection hje with hje
            subst hje
            exact he)
        clear he
        go_wp2_with fail
        go_roundw
        case rel => exact ⟨k + 1, by omega, by go_num, HA2.out, trivial⟩
        case measure => simp [intOf]; omega
    · have hkn : k = n := by omega
      subst hkn
      have hfk : fi = -1 := by
        rw [← HF.out]; unfold fI
        rw [fnd_none (fun j e he => HA.out j e (by have := (List.getElem?_eq_some_iff.1 he).1; have := Hn.out; omega) he)]
      have HFK := Lib.hid hfk
      clear hfk
      go_wp2_with fail
      go_ret
      rw [HFK.out]
      exact ⟨rfl, rfl⟩

end Go.Proofs.Yteggpdhkpmkldaa
