import Derived.Test.YteggpdhkpmkldaaJa
namespace Go.Proofs.Yteggpdhkpmkldaa
open Go.RowKit Go.Maps

/-- Object b is one that has seen l. -/
structure SnAt (w : World) (b g : Nat) (room : Int) (l : Sl) : Prop where
  ho : Ob w b 50 [.int .i64 room, .map (some g)]
  hm : MpAt w g l
  r1 : 1 ≤ room
  r2 : room ≤ 4096
  hl : (l.length : Int) ≤ room
theorem SnAt.ne {w : World} {b g : Nat} {room : Int} {l : Sl} (h : SnAt w b g room l) : b ≠ g := by
  rintro rfl
  have h1 := h.ho
  obtain ⟨D, ⟨es, c, h2, -⟩, -⟩ := h.hm
  unfold Ob at h1
  rw [h1] at h2
  injection h2 with h2
  injection h2
theorem SnAt.below {w w' : World} {b g : Nat} {room : Int} {l : Sl} (h : SnAt w b g room l) (hb : Below w.heap.size w w') : SnAt w' b g room l :=
  ⟨h.ho.below hb h.ho.lt, h.hm.below hb h.hm.lt, h.r1, h.r2, h.hl⟩
theorem SnAt.alloc {w : World} {b g : Nat} {room : Int} {l : Sl} (h : SnAt w b g room l) (o : Obj) : SnAt (w.alloc o) b g room l := ⟨h.ho.alloc o, h.hm.alloc o, h.r1, h.r2, h.hl⟩
theorem SnAt.drewN {w : World} {b g : Nat} {room : Int} {l : Sl} (h : SnAt w b g room l) (k : Nat) : SnAt (w.drewN k) b g room l := ⟨h.ho.drewN k, h.hm.drewN k, h.r1, h.r2, h.hl⟩
theorem SnAt.mods {w w' : World} {b g : Nat} {room : Int} {l : Sl} {S : Nat → Prop} (h : SnAt w b g room l) (hm : Mods S w w') (hb : ¬ S b) (hg : ¬ S g) : SnAt w' b g room l := ⟨h.ho.mods hm hb, h.hm.mods hm hg, h.r1, h.r2, h.hl⟩
theorem SnAt.set {w : World} {b g : Nat} {room : Int} {l : Sl} (h : SnAt w b g room l) (c i : Nat) (v : Value) (hb : b ≠ c) (hg : g ≠ c) : SnAt (w.setCell ⟨c, i, none⟩ v) b g room l :=
  ⟨Ob.upd h.ho ((Upd.refl _ _).set i v) hb, h.hm.set (by simpa using hg) v, h.r1, h.r2, h.hl⟩

def sPut (room : Int) (l : Sl) (nm : ByteArray) (x : Ex) : Int × Sl :=
  if nameB nm = true then (if (look l nm).isSome then (41, l) else if room ≤ l.length then (40, l) else (0, put l nm { x with bu := false })) else (43, l)
def sBust (l : Sl) (nm : ByteArray) : Int × Sl :=
  match look l nm with
  | none => (42, l)
  | some x => if x.bu = true then (41, l) else (0, put l nm { x with bu := true })
/-- A method's end. -/
def SnP (w : World) (b g : Nat) (room : Int) (r : Int × Sl) (e : Ending) (w' : World) : Prop := e = .returned (.int .i64 r.1) ∧ SnAt w' b g room r.2 ∧ Mods (fun k => k = g) w w'

set_option maxHeartbeats 400000 in
theorem sIs_nil (w : World) : Calls Try.prog 52 #[.pointer none] w fun e w' => e = .returned (.bool false) ∧ w = w' := by
  go_enter Try.func52, Try.ntmps52
  go_wp2
  go_ret
  exact ⟨rfl, rfl⟩
set_option maxHeartbeats 400000 in
theorem sIs_any (w : World) (b : Nat) (s : Int) (r : Bool) (h : w.cell? ⟨b, 0, none⟩ = some (.int .i64 s)) (hr : decide (0 < s) = r) : Calls Try.prog 52 #[.pointer (some ⟨b, 0, none⟩)] w fun e w' => e = .returned (.bool r) ∧ w = w' := by
  go_enter Try.func52, Try.ntmps52
  go_wp2
  go_ret
  exact ⟨rfl, rfl⟩

/-- New. -/
def SNewP (w : World) (room : Int) (e : Ending) (w' : World) : Prop :=
  (e = .returned (.tuple #[.pointer none, .int .i64 2]) ∧ (room < 1 ∨ 4096 < room) ∧ w = w') ∨
  (1 ≤ room ∧ room ≤ 4096 ∧ ∃ b g, e = .returned (.tuple #[.pointer (some ⟨b, 0, none⟩), .int .i64 0]) ∧ SnAt w' b g room [] ∧ w.heap.size ≤ b ∧ w.heap.size ≤ g ∧ Below w.heap.size w w')
set_option maxHeartbeats 400000 in
set_option maxRecDepth 100000 in
theorem sNew_any (w : World) (room : Int) : Calls Try.prog 15 #[.int .i64 room] w fun e w' => SNewP w room e w' := by
  by_cases h1 : room < 1
  · go_enter Try.func15, Try.ntmps15
    go_wp2
    go_ret2
    exact .inl ⟨rfl, .inl h1, rfl⟩
  by_cases h2 : 4096 < room
  · go_enter Try.func15, Try.ntmps15
    go_wp2
    go_ret2
    exact .inl ⟨rfl, .inr h2, rfl⟩
  have hmm := @run_makeMap Try.prog
  have hm := (MpAt.made w).alloc (.cells #[.int .i64 room, .map (some w.heap.size)] 50)
  have ho := Ob.new2 w (.map #[] 0) 50 [.int .i64 room, .map (some w.heap.size)]
  have hb : Below w.heap.size w ((w.alloc (.map #[] 0)).alloc (.cells #[.int .i64 room, .map (some w.heap.size)] 50)) := Below.alloc_set.alloc (by simp) _
  go_enter Try.func15, Try.ntmps15
  go_wp2
  go_ret2
  exact .inr ⟨by omega, by omega, _, _, rfl, ⟨ho, hm, by omega, by omega, by simp; omega⟩, by simp, by simp, hb⟩

set_option maxHeartbeats 400000 in
theorem sCount_any (w : World) (b g : Nat) (room : Int) (l : Sl) (h : SnAt w b g room l) : Calls Try.prog 22 #[.pointer (some ⟨b, 0, none⟩)] w fun e w' => e = .returned (.int .i64 l.length) ∧ w = w' := by
  have hc := h.ho.cell
  have hp : decide (0 < room) = true := by have := h.r1; simp; omega
  have Hp := Lib.hid hp
  have hlen := h.hm.len
  clear h hp
  go_enter Try.func22, Try.ntmps22
  go_wp2_with (go_at_call 52; refine (sIs_any _ b room true (hc 0) Hp.out).mono ?_; rintro e w' ⟨rfl, rfl⟩)
  go_ret
  exact ⟨rfl, rfl⟩

end Go.Proofs.Yteggpdhkpmkldaa
