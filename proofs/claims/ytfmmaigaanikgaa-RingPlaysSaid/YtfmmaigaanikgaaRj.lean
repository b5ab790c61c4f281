import Derived.Test.YtfmmaigaanikgaaRi
namespace Go.Proofs.Ytfmmaigaanikgaa
open Go.RowKit

/-- The document's ring at rb: its list's slice value v. -/
structure RrAt (w : World) (rb : Nat) (v : Value) (room : Int) (xs : List Int) : Prop where
  ho : Ob w rb 79 [.int .i64 room, v]
  hown : w.ownsRow (rb + 1) 3 1 v xs.length (xs.map (Value.int .i64))
  hx : xs.length ≤ 1024
theorem RrAt.mods {w w' : World} {rb : Nat} {v : Value} {room : Int} {xs : List Int} {S : Nat → Prop} (h : RrAt w rb v room xs) (hm : Mods S w w') (h1 : ¬ S rb) (h2 : ∀ k, v.ownBlock = some k → ¬ S k) : RrAt w' rb v room xs :=
  ⟨h.ho.mods hm h1, own_mods h.hown hm h2, h.hx⟩
theorem one_int (xs : List Int) : ∀ u ∈ xs.map (Value.int .i64), u.oneCell' = true := by
  intro u hu
  obtain ⟨x, -, rfl⟩ := List.mem_map.1 hu
  rfl

set_option maxHeartbeats 800000 in
theorem rrPush_full (w : World) (rb : Nat) (v : Value) (room : Int) (xs : List Int) (x : Int) (h : RrAt w rb v room xs) (hlt : room ≤ xs.length) :
    Calls Try.prog 47 #[.pointer (some ⟨rb, 0, none⟩), .int .i64 x] w fun e w' => e = .returned (.int .i64 40) ∧ ∃ k, w' = w.drewN k := by
  obtain ⟨A, c, rfl, hR, hc1, hc2⟩ := own_shape h.hown
  have hc := h.ho.cell
  have hd : decide (room ≤ (xs.length : Int)) = true := by simpa using hlt
  generalize xs.length = n at *
  clear h hR
  go_enter Try.func47, Try.ntmps47
  go_wp2_with fail
  go_quiet (fail)
  go_wp2_with fail
  go_ret
  exact ⟨rfl, _, rfl⟩

set_option maxHeartbeats 800000 in
theorem rrPush_ok (w : World) (rb : Nat) (v : Value) (room : Int) (xs : List Int) (x : Int) (h : RrAt w rb v room xs) (hlt : (xs.length : Int) < room) (h9 : room ≤ 1024) :
    Calls Try.prog 47 #[.pointer (some ⟨rb, 0, none⟩), .int .i64 x] w fun e w' => e = .returned (.int .i64 0) ∧ ∃ v', RrAt w' rb v' room (xs ++ [x]) ∧ Mods (fun k => k = rb ∨ v.ownBlock = some k) w w' := by
  obtain ⟨i0, hi0, hz0, hz1, hz2⟩ := info_parts RIInfo
  have HI := Lib.hid hi0
  have HZ0 := Lib.hid hz0
  have HZ1 := Lib.hid hz1
  have HZ2 := Lib.hid hz2
  clear hi0 hz0 hz1 hz2
  obtain ⟨A, c, rfl, hR, hc1, hc2⟩ := own_shape h.hown
  have hc := h.ho.cell
  have hz := h.ho.frozen
  have hd : decide (room ≤ (xs.length : Int)) = false := by simp; omega
  have HH := Lib.hid h
  have hrl := h.ho.lt
  have Hn3 : Hid (xs.length + 1 ≤ 1000000) := by show _ ≤ _; omega
  have hx9 := h.hx
  clear h hR
  generalize hn : xs.length = n at *
  have Hn := Lib.hid hn
  clear hn
  go_enter Try.func47, Try.ntmps47
  go_wp2_with fail
  go_quiet (fail)
  go_upto_region 3 with (fail)
  refine cutW (fun W => RrAt W rb (.slice A n c) room xs ∧ Mods (fun k => k = rb ∨ (Value.slice A n c).ownBlock = some k) w W) ⟨HH.out.mods ((Mods.refl (fun _ => False) w).drewN _) id (fun _ _ => id), (Mods.refl _ w).drewN _⟩ ?_
  clear hc hz
  rintro W ⟨h, hM⟩
  have hc := h.ho.cell
  have hz := h.ho.frozen
  have hrl := h.ho.lt
  have hown := h.hown
  rw [Hn.out] at hown
  have Hown := Lib.hid hown
  have HO := Lib.hid h.ho
  clear h hown
  go_wp2_with (at_builtin; refine append1 rfl (.tmp 19) (.tmp 21) 49 rfl (rb + 1) 3 i0 _ 1 8 Try.underlying49 HI.out HZ0.out HZ1.out HZ2.out rfl (by decide) _ n _ rfl (own_mods Hown.out ((Mods.refl (fun _ => False) _).alloc (.cells #[.int .i64 x] 3)) (fun _ _ => id)) _ [.int .i64 x] rfl (Ob.new _ 3 [.int .i64 x]) rfl (by simp [Value.oneCell']) Hn3.out (by decide) (by simp; omega) (fun v5 w5 hown5 hg5 hat5 => ?_); have ho5 := (HO.out.alloc (.cells #[.int .i64 x] 3)).grown hg5 (fun kk hk he => by have := own_block Hown.out kk hk; omega); have hc5 := ho5.cell; have hz5 := ho5.frozen; obtain ⟨A5, c5, rfl, -, -, -⟩ := own_shape hown5)
  go_ret
  have hM5 : Mods (fun k => k = rb ∨ (Value.slice A n c).ownBlock = some k) w w5 := (hM.alloc _).grown hg5 (fun i hi => .inl (.inr hi))
  refine ⟨rfl, .slice A5 (n + 1) c5, ⟨ho5.set 1 _, ?_, by rw [List.length_append, Hn.out, List.length_singleton]; omega⟩, hM5.setCell _ (.inl (.inl rfl)) _⟩
  rw [List.length_append, Hn.out, List.length_singleton, List.map_append]
  exact own_upd hown5 ((Upd.refl rb w5).set 1 _) (by omega)

set_option maxHeartbeats 800000 in
theorem rrPeek_nil (w : World) (rb : Nat) (v : Value) (room : Int) (h : RrAt w rb v room []) :
    Calls Try.prog 51 #[.pointer (some ⟨rb, 0, none⟩)] w fun e w' => e = .returned (.tuple #[.int .i64 0, .int .i64 50]) ∧ w = w' := by
  obtain ⟨A, c, rfl, hR, hc1, hc2⟩ := own_shape h.hown
  have hc := h.ho.cell
  clear h hR
  go_enter Try.func51, Try.ntmps51
  go_wp2_with fail
  go_ret2
  exact ⟨rfl, rfl⟩
set_option maxHeartbeats 800000 in
theorem rrPeek_cons (w : World) (rb : Nat) (v : Value) (room : Int) (x : Int) (xs : List Int) (h : RrAt w rb v room (x :: xs)) :
    Calls Try.prog 51 #[.pointer (some ⟨rb, 0, none⟩)] w fun e w' => e = .returned (.tuple #[.int .i64 x, .int .i64 0]) ∧ w = w' := by
  obtain ⟨A, c, rfl, hR, hc1, hc2⟩ := own_shape h.hown
  have hc := h.ho.cell
  obtain ⟨g, off, rfl, hgl, hcell⟩ := hR.2.2 (by simp)
  have f0 := hcell 0 (.int .i64 x) rfl
  rw [Nat.add_zero] at f0
  have hl : (((x :: xs).length : Int) == 0) = false := by simp; omega
  have hl2 : 0 < (x :: xs).length := by simp
  clear h hcell
  generalize (x :: xs).length = n at *
  go_enter Try.func51, Try.ntmps51
  go_wp2_with fail
  go_ret2
  exact ⟨rfl, rfl⟩

set_option maxHeartbeats 800000 in
theorem rrPop_nil (w : World) (rb : Nat) (v : Value) (room : Int) (h : RrAt w rb v room []) :
    Calls Try.prog 49 #[.pointer (some ⟨rb, 0, none⟩)] w fun e w' => e = .returned (.tuple #[.int .i64 0, .int .i64 50]) ∧ w = w' := by
  go_enter Try.func49, Try.ntmps49
  go_wp2_with (go_at_call 51; refine (rrPeek_nil _ rb v room h).mono ?_; rintro e w' ⟨rfl, rfl⟩)
  go_ret2
  exact ⟨rfl, rfl⟩
set_option maxHeartbeats 1600000 in
set_option maxRecDepth 100000 in
theorem rrPop_cons (w : World) (rb : Nat) (v : Value) (room : Int) (x : Int) (xs : List Int) (h : RrAt w rb v room (x :: xs)) :
    Calls Try.prog 49 #[.pointer (some ⟨rb, 0, none⟩)] w fun e w' => e = .returned (.tuple #[.int .i64 x, .int .i64 0]) ∧ ∃ v', RrAt w' rb v' room xs ∧ Mods (fun k => k = rb) w w' := by
  obtain ⟨i0, hi0, hz0, hz1, hz2⟩ := info_parts RIInfo
  have HI := Lib.hid hi0
  have HZ0 := Lib.hid hz0
  have HZ1 := Lib.hid hz1
  have HZ2 := Lib.hid hz2
  clear hi0 hz0 hz1 hz2
  have HH := Lib.hid h
  obtain ⟨g, cap, hv, hgb, hgl⟩ := h.hown.form (by simp)
  have hcells := h.hown.cells (g := g) (by rw [hv]; rfl)
  obtain ⟨A, c, hv2, hR, hc1, hc2⟩ := own_shape h.hown
  rw [hv2] at hv
  injection hv with e1 _ e3
  subst e1 e3 hv2
  have hc := h.ho.cell
  have hz := h.ho.frozen
  have hrl := h.ho.lt
  have hx9 := h.hx
  have hcx : ∀ j u, (xs.map (Value.int .i64))[j]? = some u → w.cell? ⟨g, 1 + j, none⟩ = some u := fun j u hu => by
    have := hcells (1 + j) u (by rw [List.map_cons, Nat.add_comm, List.getElem?_cons_succ]; exact hu)
    rw [Go.WideShapes.add_plain] at this
    simpa using this
  have Hcx := Lib.hid hcx
  have Hhf := Lib.hid (one_int xs)
  clear h hR hcells hcx
  simp only [List.length_cons] at *
  generalize hn : xs.length = n at *
  have Hn := Lib.hid hn
  have Hn9 : Hid (0 + n ≤ maxLen) := by show _ ≤ _; simp only [maxLen]; omega
  have Hn8 : Hid ((0 + n) * 8 ≤ 140737488355328) := by show _ ≤ _; omega
  have Hl : Hid ((xs.map (Value.int .i64)).length = n * 1) := by show _ = _; simp [hn]
  clear hn
  by_cases hc1' : c = 1
  · subst hc1'
    obtain rfl : n = 0 := by omega
    go_enter Try.func49, Try.ntmps49
    go_wp2_with (first
      | (go_at_call 51; refine (rrPeek_cons _ rb _ room x xs (by have := HH.out; simpa [Hn.out] using this)).mono ?_; rintro e w' ⟨rfl, rfl⟩)
      | (at_builtin; (refine wpList_append_own _ rfl (.tmp 15) (.tmp 20) 49 rfl (rb + 1) 3 i0 _ 1 8 Try.underlying49 HI.out HZ0.out HZ1.out HZ2.out rfl (by decide) _ 0 [] rfl (own_nil _ _ _ _) ⟨g, 0, none⟩ 0 0 (xs.map (Value.int .i64)) rfl Hl.out (fun j u hu => by have : xs = [] := List.length_eq_zero_iff.1 Hn.out; subst this; simp at hu) Hhf.out Hn9.out Hn8.out (by omega) (fun v5 w5 hown5 hg5 _ => ?_); have hg6 : World.grownBy _ w5 none := hg5; have ho5 := HH.out.ho.grown hg6 (fun kk hk he => by cases hk); have hc5 := ho5.cell; have hz5 := ho5.frozen; obtain ⟨A5, c5, rfl, -, -, -⟩ := own_shape hown5)))
    go_ret2
    have hM5 : Mods (fun k => k = rb) w w5 := (Mods.refl _ w).grown hg6 (fun i hi => by cases hi)
    refine ⟨rfl, ⟨_, ho5.set 1 _, ?_, by rw [Hn.out]; omega⟩, hM5.setCell _ (.inl rfl) _⟩
    rw [Hn.out]
    exact own_upd hown5 ((Upd.refl rb w5).set 1 _) (by omega)
  · go_enter Try.func49, Try.ntmps49
    go_wp2_with (first
      | (go_at_call 51; refine (rrPeek_cons _ rb _ room x xs (by have := HH.out; simpa [Hn.out] using this)).mono ?_; rintro e w' ⟨rfl, rfl⟩)
      | (at_builtin; (refine wpList_append_own _ rfl (.tmp 15) (.tmp 20) 49 rfl (rb + 1) 3 i0 _ 1 8 Try.underlying49 HI.out HZ0.out HZ1.out HZ2.out rfl (by decide) _ 0 [] rfl (own_nil _ _ _ _) ⟨g, 1, none⟩ n (c - 1) (xs.map (Value.int .i64)) rfl Hl.out (fun j u hu => by rw [Go.WideShapes.add_plain]; exact Hcx.out j u hu) Hhf.out Hn9.out Hn8.out (by omega) (fun v5 w5 hown5 hg5 _ => ?_); have hg6 : World.grownBy _ w5 none := hg5; have ho5 := HH.out.ho.grown hg6 (fun kk hk he => by cases hk); have hc5 := ho5.cell; have hz5 := ho5.frozen; obtain ⟨A5, c5, rfl, -, -, -⟩ := own_shape hown5)))
    go_ret2
    have hM5 : Mods (fun k => k = rb) w w5 := (Mods.refl _ w).grown hg6 (fun i hi => by cases hi)
    refine ⟨rfl, _, ⟨ho5.set 1 _, ?_, by rw [Hn.out]; omega⟩, hM5.setCell _ (.inl rfl) _⟩
    rw [Hn.out]
    have := own_upd hown5 ((Upd.refl rb w5).set 1 (.slice A5 (0 + n) c5)) (by omega)
    simpa using this

end Go.Proofs.Ytfmmaigaanikgaa
