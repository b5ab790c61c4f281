import Derived.Test.YteggpdhkpmkldaaJi
namespace Go.Proofs.Yteggpdhkpmkldaa
open Go.RowKit Go.Maps

theorem own_obs {w : World} {base n size : Nat} {e : TypeId} {v : Value} {xs : List Value} (h : w.ownsRow base e size v n xs) (hn : 0 < n) : ∃ g cap pad, v = .slice (some ⟨g, 0, none⟩) n cap ∧ base ≤ g ∧ n ≤ cap ∧ cap ≤ 9223372036854775807 ∧ Ob w g e (xs ++ pad) := by
  rcases h.2 with ⟨_, h2⟩ | ⟨g, cap, cur, rfl, hb, hh, h1, h2, _, ht⟩
  · omega
  · exact ⟨g, cap, cur.toList.drop (n * size), rfl, hb, h1, by simpa [maxLen] using h2, by unfold Ob; rw [← ht, List.take_append_drop]; simpa using hh⟩
theorem own_setc {w : World} {base n size : Nat} {e : TypeId} {g cap : Nat} {xs : List Value} (h : w.ownsRow base e size (.slice (some ⟨g, 0, none⟩) n cap) n xs) (hn : 0 < n) (i : Nat) (u : Value) : (w.setCell ⟨g, i, none⟩ u).ownsRow base e size (.slice (some ⟨g, 0, none⟩) n cap) n (xs.set i u) := by
  refine ⟨by rw [List.length_set]; exact h.1, ?_⟩
  rcases h.2 with ⟨_, h2⟩ | ⟨g', cap', cur, hv, hb, hh, h1, h2, h3, ht⟩
  · omega
  · injection hv with hg _ hc
    injection hg with hg
    injection hg with hg _ _
    subst hg
    have hob : Ob w g e cur.toList := by unfold Ob; simpa using hh
    have := Ob.set hob i u
    unfold Ob at this
    refine .inr ⟨g, cap', (cur.toList.set i u).toArray, by rw [hc], hb, this, h1, h2, by simpa using h3, ?_⟩
    rw [List.toList_toArray, List.take_set, ht]
theorem flat_set5 : ∀ (l : Sl) (i : Nat) (e : ByteArray × Ex), i < l.length → (((((l.flatMap entC).set (i * 5) (.string e.1)).set (i * 5 + 1) (.string e.2.od)).set (i * 5 + 2) (.int .i64 e.2.q)).set (i * 5 + 3) (.int .i64 e.2.p)).set (i * 5 + 4) (.bool e.2.bu) = (l.set i e).flatMap entC
  | [], i, e, h => by simp at h
  | a :: r, 0, e, _ => by simp [List.flatMap_cons, entC]
  | a :: r, i + 1, e, h => by
    have h5 : ∀ (t : List Value) (k : Nat) (x : Value), (entC a ++ t).set ((i + 1) * 5 + k) x = entC a ++ t.set (i * 5 + k) x := by
      intro t k x
      rw [List.set_append_right _ _ (by show 5 ≤ _; omega)]
      congr 2
      show (i + 1) * 5 + k - 5 = _
      omega
    have h50 := fun t x => h5 t 0 x
    simp only [Nat.add_zero] at h50
    rw [List.flatMap_cons, List.set_cons_succ, List.flatMap_cons, h50, h5, h5, h5, h5, flat_set5 r i e (by simpa using h)]

set_option maxHeartbeats 1600000 in
set_option maxRecDepth 100000 in
theorem rsBust (w : World) (rb : Nat) (v : Value) (room : Int) (l : Sl) (h : RsAt w rb v room l) (nm : ByteArray) :
    Calls Try.prog 19 #[.pointer (some ⟨rb, 0, none⟩), .string nm] w fun e w' => RsP w rb v room (sBust l nm) e w' := by
  obtain ⟨P, hP⟩ : ∃ P, sBust l nm = P := ⟨_, rfl⟩
  rw [hP]
  have hlk := fnd_look l nm
  have hfi := rsFind w rb v room l nm h
  unfold fI at hfi
  have hc := h.ho.cell
  have H := Lib.hid h
  cases hf : fnd l nm with
  | none =>
    rw [hf] at hlk hfi
    simp only at hlk hfi
    have HP2 : Hid (P = (42, l)) := Lib.hid (by rw [← hP]; unfold sBust; rw [hlk.1])
    have HF := Lib.hid hfi
    clear hP hlk hfi hf h
    go_enter Try.func19, Try.ntmps19
    go_wp2_with (go_at_call 21; refine HF.out.mono ?_; rintro e w' ⟨rfl, rfl⟩)
    go_ret
    rw [HP2.out]
    exact ⟨rfl, v, H.out, Mods.refl _ _, .inl rfl⟩
  | some i =>
  rw [hf] at hlk hfi
  simp only at hlk hfi
  obtain ⟨hil, ⟨od, q, p, bu⟩, h2, h3, h4⟩ := hlk
  have hn0 : 0 < l.length := by omega
  obtain ⟨g, cap, pad, rfl, hbg, hc1, hc2, hob⟩ := own_obs h.hown hn0
  have hgl := hob.lt
  have hz := hob.frozen
  have hx9 := h.hx
  obtain ⟨g', off, hA, -, hcell⟩ := ent_cells (Rd.of_own h.hown) hil h2
  injection hA with hA
  injection hA with hg ho _
  subst hg ho
  have a0 : w.cell? ⟨g, i * 5, none⟩ = some (.string nm) := by have := hcell 0 (by omega); simpa [entC] using this
  have a1 : w.cell? ⟨g, i * 5 + 1, none⟩ = some (.string od) := by have := hcell 1 (by omega); simpa [entC] using this
  have a2 : w.cell? ⟨g, i * 5 + 2, none⟩ = some (.int .i64 q) := by have := hcell 2 (by omega); simpa [entC] using this
  have a3 : w.cell? ⟨g, i * 5 + 3, none⟩ = some (.int .i64 p) := by have := hcell 3 (by omega); simpa [entC] using this
  have a4 : w.cell? ⟨g, i * 5 + 4, none⟩ = some (.bool bu) := by have := hcell 4 (by omega); simpa [entC] using this
  have hi0 : (0 : Int) ≤ (i : Int) := by omega
  have hil2 : (i : Int) < (l.length : Int) := by omega
  have HP1 : Hid (P = if bu = true then (41, l) else (0, l.set i (nm, ⟨od, q, p, true⟩))) := Lib.hid (by rw [← hP, ← h4]; unfold sBust; rw [h3])
  have HF := Lib.hid hfi
  have hrl := h.ho.lt
  generalize hn : l.length = n at *
  have Hn := Lib.hid hn
  have hneg : decide ((i : Int) < 0) = false := by simp
  clear hP hfi hf h h2 h3 h4 hcell hn hob hn0
  cases bu with
  | true =>
    have HP2 := Lib.hid (HP1.out.trans (if_pos rfl))
    clear HP1
    go_enter Try.func19, Try.ntmps19
    go_wp2_with (go_at_call 21; refine HF.out.mono ?_; rintro e w' ⟨rfl, rfl⟩)
    go_ret
    rw [HP2.out]
    exact ⟨rfl, _, H.out, Mods.refl _ _, .inl rfl⟩
  | false =>
    have HP2 := Lib.hid (HP1.out.trans (if_neg (by decide)))
    clear HP1
    go_enter Try.func19, Try.ntmps19
    go_upto_region 7 with (go_at_call 21; refine HF.out.mono ?_; rintro e w' ⟨rfl, rfl⟩)
    have hol : g < w.heap.size := hgl
    refine cutW (fun W => RsAt W rb (.slice (some ⟨g, 0, none⟩) n cap) room l ∧ Ob W w.heap.size 39 [.string od, .int .i64 q, .int .i64 p, .bool false] ∧ Below w.heap.size w W) ⟨H.out.below Below.alloc_set, Ob.new w 39 [.string od, .int .i64 q, .int .i64 p, .bool false], Below.alloc_set⟩ ?_
    clear hc hz a0 a1 a2 a3 a4 H
    rintro W ⟨h, hO, hB⟩
    have hco := hO.cell
    have hz := hO.frozen
    have hlt := hO.lt
    have H := Lib.hid h
    have HO := Lib.hid hO
    have HB := Lib.hid hB
    clear h hO hB
    go_upto_region 8 with (fail)
    refine cutW (fun Z => RsAt Z rb (.slice (some ⟨g, 0, none⟩) n cap) room l ∧ Ob Z w.heap.size 39 [.string od, .int .i64 q, .int .i64 p, .bool true] ∧ Below w.heap.size w Z) ⟨H.out.mods ((Mods.refl (fun k => k = w.heap.size) W).setCell (⟨w.heap.size, 3, none⟩ : Addr) (.inl rfl) _) (by omega) (fun k hk => by obtain rfl : g = k := (by simpa [Value.ownBlock] using hk); exact Nat.ne_of_lt hol), Ob.set HO.out 3 (.bool true), HB.out.setCell (by simp) _⟩ ?_
    clear hco hz hlt H HO HB
    rintro Z ⟨h, hO, hB⟩
    have hc := h.ho.cell
    have hco := hO.cell
    have hown := h.hown
    rw [Hn.out] at hown
    obtain ⟨g2, cap2, pad2, hv2, -, -, -, hob⟩ := own_obs hown (by omega)
    injection hv2 with hg2 _ hcap
    subst hcap
    injection hg2 with hg2
    injection hg2 with hg2 _ _
    subst hg2
    have hz := hob.frozen
    have hl9 := hob.lt
    have hlen : (l.flatMap entC).length = n * 5 := by rw [flat_len entC 5 (fun _ => rfl), Hn.out]
    have hcg : ∀ j, j < 5 → (Z.cell? ⟨g, i * 5 + j, none⟩).isSome = true := fun j hj => by
      rw [hob.cell (i * 5 + j), List.getElem?_append_left (by rw [hlen]; omega)]
      simp [hlen]
      omega
    obtain ⟨b0, c0⟩ := Option.isSome_iff_exists.1 (hcg 0 (by omega))
    obtain ⟨b1, c1⟩ := Option.isSome_iff_exists.1 (hcg 1 (by omega))
    obtain ⟨b2, c2⟩ := Option.isSome_iff_exists.1 (hcg 2 (by omega))
    obtain ⟨b3, c3⟩ := Option.isSome_iff_exists.1 (hcg 3 (by omega))
    obtain ⟨b4, c4⟩ := Option.isSome_iff_exists.1 (hcg 4 (by omega))
    rw [Nat.add_zero] at c0
    have H := Lib.hid h
    have HB := Lib.hid hB
    have Hown := Lib.hid hown
    clear h hO hB hcg hob hown hlen
    refine wp_region_tail 9 (by kernel_rfl) (by kernel_rfl) ?_
    simp only [List.take_succ_cons, List.take_zero, List.drop_succ_cons, List.drop_zero]
    repeat (go_big_quiet_step (fail))
    refine wpQuiet_nil ?_
    go_wp2_with fail
    go_ret
    rw [HP2.out]
    have hu := ((((((Upd.refl g Z).set (i * 5) (.string nm)).set (i * 5 + 1) (.string od)).set (i * 5 + 2) (.int .i64 q)).set (i * 5 + 3) (.int .i64 p)).set (i * 5 + 4) (.bool true)).drew
    have ho6 := H.out.ho.upd hu (by omega)
    have hn0 : 0 < n := by omega
    have hw6 := own_setc (own_setc (own_setc (own_setc (own_setc Hown.out hn0 (i * 5) (.string nm)) hn0 (i * 5 + 1) (.string od)) hn0 (i * 5 + 2) (.int .i64 q)) hn0 (i * 5 + 3) (.int .i64 p)) hn0 (i * 5 + 4) (.bool true)
    rw [flat_set5 l i (nm, ⟨od, q, p, true⟩) (by rw [Hn.out]; omega)] at hw6
    refine ⟨rfl, .slice (some ⟨g, 0, none⟩) n cap, ⟨ho6, ?_, by rw [List.length_set, Hn.out]; exact hx9⟩, (Below.mods_ HB.out _).trans (hu.mods (.inr rfl)), .inl rfl⟩
    rw [List.length_set, Hn.out]
    exact hw6

end Go.Proofs.Yteggpdhkpmkldaa
