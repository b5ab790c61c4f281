import Derived.Test.YteggpdhkpmkldaaKl
import Derived.Lib.QuietBelow
namespace Go.Proofs.Yteggpdhkpmkldaa
open Go.RowKit

/-! The document's book (spigotref17), told of the program's own. -/
theorem Rd.mods {S : Nat → Prop} {w w' : World} {A : Option Addr} {n sz : Nat} {xs : List Value} (h : Rd w A n sz xs) (hm : Mods S w w') (hS : ∀ a, A = some a → ¬ S a.block) : Rd w' A n sz xs :=
  ⟨h.1, h.2.1, fun hn => by
    obtain ⟨b, off, e, hl, hc⟩ := h.2.2 hn
    refine ⟨b, off, e, Nat.lt_of_lt_of_le hl hm.size, fun j u hu => ?_⟩
    rw [← hc j u hu]
    have hb := hm.block b hl (hS _ e)
    unfold World.cell?
    rw [hb]⟩
def rfw (h : Hold) : Int × Int := if h.1 = true then (h.2.1, h.2.2) else (-1, 0)
def wc (h : Hold) : List Value := [.int .i64 (rfw h).1, .int .i64 (rfw h).2]
/-- The document's book at br: what was realised at gd, its holds at gw; the limits are the argument's. -/
structure RfAt (w : World) (B br gd gw cw : Nat) (A : Option Addr) (n c : Nat) (ls : List Int) (ps : List Purse) (hs : List Hold) : Prop where
  ho : Ob w br 117 [.slice A n c, .slice (some ⟨gd, 0, none⟩) n n, .slice (some ⟨gw, 0, none⟩) hs.length cw]
  hr : Rd w A n 1 (ls.map (Value.int .i64))
  hd : Ob w gd 3 (ps.map fun p => Value.int .i64 p.2.2)
  hw : ∃ pad, Ob w gw 119 (hs.flatMap wc ++ pad)
  h1 : br ≠ gd
  h2 : br ≠ gw
  h3 : gd ≠ gw
  hn : ls.length = n ∧ 1 ≤ n ∧ n ≤ 16
  hp : ps.length = n
  hhs : 1 ≤ hs.length ∧ hs.length ≤ 64
  hB : B ≤ br ∧ B ≤ gd ∧ B ≤ gw
  hA : ∀ a, A = some a → a.block < B
section
variable {w w' : World} {B br gd gw cw n c : Nat} {A : Option Addr} {ls : List Int} {ps : List Purse} {hs : List Hold}
theorem RfAt.mods {S : Nat → Prop} (h : RfAt w B br gd gw cw A n c ls ps hs) (hm : Mods S w w') (hS : ∀ k, S k → B ≤ k) (k1 : ¬ S br) (k2 : ¬ S gd) (k3 : ¬ S gw) : RfAt w' B br gd gw cw A n c ls ps hs :=
  ⟨h.ho.mods hm k1, h.hr.mods hm (fun a ha hs => by have := hS _ hs; have := h.hA a ha; omega), h.hd.mods hm k2, h.hw.elim fun pad h => ⟨pad, h.mods hm k3⟩, h.h1, h.h2, h.h3, h.hn, h.hp, h.hhs, h.hB, h.hA⟩
theorem RfAt.drewN (h : RfAt w B br gd gw cw A n c ls ps hs) (k : Nat) : RfAt (w.drewN k) B br gd gw cw A n c ls ps hs := h.mods ((Mods.refl (fun _ => False) w).drewN k) (fun _ => False.elim) id id id
theorem RfAt.alloc (h : RfAt w B br gd gw cw A n c ls ps hs) (o : Obj) : RfAt (w.alloc o) B br gd gw cw A n c ls ps hs := h.mods ((Mods.refl (fun _ => False) w).alloc o) (fun _ => False.elim) id id id
theorem RfAt.w2 (h : RfAt w B br gd gw cw A n c ls ps hs) {s : Nat} {x : Hold} (hx : hs[s]? = some x) : w.cell? ⟨gw, s * 2, none⟩ = some (.int .i64 (rfw x).1) ∧ w.cell? ⟨gw, s * 2 + 1, none⟩ = some (.int .i64 (rfw x).2) := by
  obtain ⟨pad, hob⟩ := h.hw
  exact ⟨(hob.cell _).trans (flat_at_pad wc 2 (fun _ => rfl) hs pad s 0 x hx (by omega)), (hob.cell _).trans (flat_at_pad wc 2 (fun _ => rfl) hs pad s 1 x hx (by omega))⟩
theorem RfAt.wfroz (h : RfAt w B br gd gw cw A n c ls ps hs) (j : Nat) : w.frozen? ⟨gw, j, none⟩ = false := by
  obtain ⟨pad, hob⟩ := h.hw
  exact hob.frozen j
theorem RfAt.d1 (h : RfAt w B br gd gw cw A n c ls ps hs) {a : Nat} {p : Purse} (hp : ps[a]? = some p) : w.cell? ⟨gd, a, none⟩ = some (.int .i64 p.2.2) := (h.hd.cell a).trans (by rw [List.getElem?_map, hp]; rfl)
theorem RfAt.l1 (h : RfAt w B br gd gw cw A n c ls ps hs) {a : Nat} {x : Int} (hx : ls[a]? = some x) : ∃ b off, A = some ⟨b, off, none⟩ ∧ b < w.heap.size ∧ w.cell? ⟨b, off + a, none⟩ = some (.int .i64 x) := by
  obtain ⟨b, off, e, hl, hc⟩ := h.hr.2.2 (by have := (List.getElem?_eq_some_iff.1 hx).1; have := h.hn; omega)
  exact ⟨b, off, e, hl, hc a _ (by rw [List.getElem?_map, hx]; rfl)⟩
theorem wt_rfw (a : Nat) (x : Hold) : wt (a : Int) x = if (rfw x).1 = (a : Int) then (rfw x).2 else 0 := by
  obtain ⟨t, q, m⟩ := x
  unfold wt rfw
  cases t <;> simp
theorem RfAt.setD (h : RfAt w B br gd gw cw A n c ls ps hs) {a : Nat} {p p' : Purse} (hp : ps[a]? = some p) : RfAt (w.setCell ⟨gd, a, none⟩ (.int .i64 p'.2.2)) B br gd gw cw A n c ls (ps.set a p') hs := by
  have hm : Mods (fun k => k = gd) w (w.setCell ⟨gd, a, none⟩ (.int .i64 p'.2.2)) := (Mods.refl (fun k => k = gd) w).setCell (⟨gd, a, none⟩ : Addr) (Or.inl rfl) _
  refine ⟨h.ho.mods hm h.h1, h.hr.mods hm (fun a ha hs => by have := h.hA a ha; have := h.hB; omega), ?_, h.hw.elim fun pad hp => ⟨pad, hp.mods hm h.h3.symm⟩, h.h1, h.h2, h.h3, h.hn, by rw [List.length_set]; exact h.hp, h.hhs, h.hB, h.hA⟩
  rw [List.map_set]
  exact h.hd.set a _
/-- A purse whose realised stays. -/
theorem RfAt.sameP (h : RfAt w B br gd gw cw A n c ls ps hs) {a : Nat} {p p' : Purse} (hp : ps[a]? = some p) (e : p'.2.2 = p.2.2) : RfAt w B br gd gw cw A n c ls (ps.set a p') hs := by
  refine ⟨h.ho, h.hr, ?_, h.hw, h.h1, h.h2, h.h3, h.hn, by rw [List.length_set]; exact h.hp, h.hhs, h.hB, h.hA⟩
  rw [List.map_set, e]
  have : (ps.map fun p => Value.int .i64 p.2.2).set a (.int .i64 p.2.2) = ps.map fun p => Value.int .i64 p.2.2 := by
    apply List.ext_getElem?
    intro i
    by_cases hi : i = a
    · subst hi; rw [List.getElem?_set_self (by simpa using (List.getElem?_eq_some_iff.1 hp).1), List.getElem?_map, hp]; rfl
    · rw [List.getElem?_set_ne (fun e => hi e.symm)]
  rw [this]
  exact h.hd
theorem RfAt.setW1 (h : RfAt w B br gd gw cw A n c ls ps hs) {s : Nat} {x y : Hold} (hx : hs[s]? = some x) :
    RfAt ((w.setCell ⟨gw, s * 2, none⟩ (.int .i64 (rfw y).1)).setCell ⟨gw, s * 2 + 1, none⟩ (.int .i64 (rfw y).2)) B br gd gw cw A n c ls ps (hs.set s y) := by
  have hm : Mods (fun k => k = gw) w ((w.setCell ⟨gw, s * 2, none⟩ (.int .i64 (rfw y).1)).setCell ⟨gw, s * 2 + 1, none⟩ (.int .i64 (rfw y).2)) := ((Mods.refl (fun k => k = gw) w).setCell (⟨gw, s * 2, none⟩ : Addr) (Or.inl rfl) _).setCell (⟨gw, s * 2 + 1, none⟩ : Addr) (Or.inl rfl) _
  obtain ⟨pad, hob⟩ := h.hw
  refine ⟨by rw [List.length_set]; exact h.ho.mods hm h.h2, h.hr.mods hm (fun a ha hs => by have := h.hA a ha; have := h.hB; omega), h.hd.mods hm h.h3, ⟨pad, ?_⟩, h.h1, h.h2, h.h3, h.hn, h.hp, by rw [List.length_set]; exact h.hhs, h.hB, h.hA⟩
  have hs1 := (hob.set (s * 2) (.int .i64 (rfw y).1)).set (s * 2 + 1) (.int .i64 (rfw y).2)
  have hl : s < hs.length := (List.getElem?_eq_some_iff.1 hx).1
  have e : ∀ (l : List Hold) (s : Nat), s < l.length → (((l.flatMap wc ++ pad).set (s * 2) (.int .i64 (rfw y).1)).set (s * 2 + 1) (.int .i64 (rfw y).2)) = (l.set s y).flatMap wc ++ pad := by
    intro l
    induction l with
    | nil => intro s hs; simp at hs
    | cons z l ih =>
      intro s hs
      cases s with
      | zero => simp [wc]
      | succ s =>
        have := ih s (by simpa using hs)
        simp only [List.flatMap_cons, List.set_cons_succ, List.append_assoc, ← this]
        rw [show (s + 1) * 2 = s * 2 + 1 + 1 by omega]
        simp [wc]
  rw [e hs s hl] at hs1
  exact hs1
end

theorem rIn (w : World) (n lo hi : Int) : Calls Try.prog 61 #[.int .i64 n, .int .i64 lo, .int .i64 hi] w fun e w' => e = .returned (.bool (decide (lo ≤ n) && decide (n ≤ hi))) ∧ w = w' := by
  by_cases h1 : lo ≤ n
  · go_enter Try.func61, Try.ntmps61
    go_wp2
    go_ret
    exact ⟨ret_bool (by simp; omega), rfl⟩
  · go_enter Try.func61, Try.ntmps61
    go_wp2
    go_ret
    exact ⟨ret_bool (by simp; omega), rfl⟩

set_option maxHeartbeats 800000 in
theorem rUsed_in (w : World) (B br gd gw cw n c a : Nat) (A : Option Addr) (ls : List Int) (ps : List Purse) (hs : List Hold) (h : RfAt w B br gd gw cw A n c ls ps hs) (hi : BInv ls ps hs) (ha : a < n) :
    Calls Try.prog 66 #[.pointer (some ⟨br, 0, none⟩), .int .i64 a] w fun e w' => e = .returned (.int .i64 (bUsed ps a)) ∧ w = w' := by
  obtain ⟨p, hp⟩ : ∃ p, ps[a]? = some p := ⟨_, List.getElem?_eq_getElem (by have := h.hp; omega)⟩
  obtain ⟨⟨o1, o2, o3, o4, o5⟩, o6⟩ := hi.hp a p hp
  have hu : bUsed ps a = p.2.2 + sumH hs a := by
    have := (used_eq hi (a := a) (by have := h.hp; omega)).1
    rw [this]
    unfold bReal
    rw [if_pos (inB_lt (by have := h.hp; omega)), pAt_of hp]
  have hc := h.ho.cell
  have hd := h.d1 hp
  have hh9 := h.hhs.2
  have hn9 := h.hn.2.2
  have HH := Lib.hid h
  have HU := Lib.hid hu
  have HI := Lib.hid hi
  have O6 := Lib.hid o6
  clear h hu hi hp o6
  generalize hl : hs.length = m at *
  have HL := Lib.hid hl
  clear hl
  go_enter Try.func66, Try.ntmps66
  go_wp2_with fail
  go_loop [5, 6] (fun v i => ∃ (k : Nat), k ≤ m ∧ i = .int .i64 k ∧ v = .int .i64 (p.2.2 + sumTo hs a k)) (fun _ i => m - (intOf i).toNat)
  case atStart => exact ⟨0, by omega, rfl, by simp [sumTo, sumH]⟩
  case round =>
    obtain ⟨k, hk, rfl, rfl⟩ := hrel
    by_cases hlt : k < m
    · obtain ⟨x, hx⟩ : ∃ x, hs[k]? = some x := ⟨_, List.getElem?_eq_getElem (by have := HL.out; omega)⟩
      obtain ⟨c0, c1⟩ := HH.out.w2 hx
      have hst := sumTo_succ (a : Int) hx
      have hb1 := sumTo_le HI.out (a : Int) (k + 1)
      have hb0 := sumTo_le HI.out (a : Int) k
      have hw := wt_rfw a x
      generalize rfw x = y at *
      obtain ⟨q, r⟩ := y
      simp only at c0 c1 hw
      generalize hT : sumTo hs a k = T at *
      have o6 := O6.out
      by_cases hq : q = (a : Int)
      · subst hq
        rw [if_pos rfl] at hw
        have b1 : 0 ≤ p.2.2 + T := by omega
        have b2 : p.2.2 + T + r ≤ 4611686018427387904 := by omega
        have b3 : 0 ≤ p.2.2 + T + r := by omega
        have hwr : IntKind.i64.wrap (p.2.2 + T + r) = p.2.2 + T + r := by rw [IntWalk.i64_in _ (by omega)]
        have HST : Hid (sumTo hs a (k + 1) = T + r) := Lib.hid (by rw [hst, hw])
        clear hst hb1 hb0 hw hT o6 hx
        go_wp2_with fail
        go_round
        case rel => exact ⟨k + 1, by omega, by go_num, by rw [HST.out, Int.add_assoc]⟩
        case measure => simp [intOf]; omega
      · rw [if_neg hq] at hw
        have hqb : (q == (a : Int)) = false := by simpa using hq
        have HST : Hid (sumTo hs a (k + 1) = T) := Lib.hid (by rw [hst, hw]; omega)
        clear hst hb1 hb0 hw hT o6 hx hq
        go_wp2_with fail
        go_round
        case rel => exact ⟨k + 1, by omega, by go_num, by rw [HST.out]⟩
        case measure => simp [intOf]; omega
    · have hkm : m ≤ k := by omega
      have hall := sumTo_all (hs := hs) (a : Int) (k := k) (by rw [HL.out]; exact hkm)
      have Hall := Lib.hid hall
      clear hall
      go_wp2_with fail
      go_ret
      exact ⟨ret_int (by rw [HU.out, Hall.out]), rfl⟩

set_option maxHeartbeats 800000 in
theorem rFits_in (w : World) (B br gd gw cw n c a : Nat) (A : Option Addr) (ls : List Int) (ps : List Purse) (hs : List Hold) (m x : Int) (h : RfAt w B br gd gw cw A n c ls ps hs) (hi : BInv ls ps hs) (hx : ls[a]? = some x) (r : Bool) (hr : decide (m ≤ x - bUsed ps a) = r) :
    Calls Try.prog 77 #[.pointer (some ⟨br, 0, none⟩), .int .i64 a, .int .i64 m] w fun e w' => e = .returned (.bool r) ∧ ∃ k, w' = w.drewN k := by
  have ha : a < n := by have := h.hn.1; have := (List.getElem?_eq_some_iff.1 hx).1; omega
  have hn9 := h.hn.2.2
  obtain ⟨b2, off, rfl, hbl, hl1⟩ := h.l1 hx
  obtain ⟨v1, v2, v3, v4⟩ := used_lim hi hx
  have hb := (bUsed_le hi a).1
  have hc := h.ho.cell
  have hcon : ∀ k, Calls Try.prog 66 #[.pointer (some ⟨br, 0, none⟩), .int .i64 a] (w.drewN k) fun e w' => e = .returned (.int .i64 (bUsed ps a)) ∧ w' = w.drewN k := fun k => (rUsed_in (w.drewN k) B br gd gw cw n c a _ ls ps hs (h.drewN k) hi ha).mono fun _ _ ⟨he, hw⟩ => ⟨he, hw.symm⟩
  have Hcon := Lib.hid hcon
  generalize hu : bUsed ps a = u at *
  have hw1 : IntKind.i64.wrap (x - u) = x - u := by rw [IntWalk.i64_in _ (by omega)]
  have Hr := Lib.hid hr
  clear h hi hx hcon hu hr v2
  go_enter Try.func77, Try.ntmps77
  go_wp2_with fail
  go_quiet ((go_at_call 66; exact Calls.quiet_of_same (Hcon.out _)))
  go_wp2_with fail
  go_ret
  exact ⟨ret_bool Hr.out, _, rfl⟩

end Go.Proofs.Yteggpdhkpmkldaa
