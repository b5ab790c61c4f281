import Derived.Test.YtfmmaigaanikgaaSy
namespace Go.Proofs.Ytfmmaigaanikgaa
open Go.RowKit

set_option maxHeartbeats 400000 in
set_option maxRecDepth 100000 in
theorem streakPlays_out (w : World) (m : Int) (A : Option Addr) (n c : Nat) (h9 : n ≤ 9223372036854775807) (h : 100 < n ∨ m < 2 ∨ 1024 < m) :
    Calls Try.prog 4 #[.int .i64 m, .slice A n c] w fun e w' => e = .returned (.bool true) ∧ Below w.heap.size w w' := by
  by_cases h1 : 100 < n
  · clear h
    go_enter Try.func4, Try.ntmps4
    go_wp2_with (go_at_call 15; refine (awake07 _).mono ?_; rintro e w' ⟨rfl, hbw⟩)
    go_ret
    exact ⟨rfl, hbw⟩
  have h2 : m < 2 ∨ 1024 < m := by omega
  clear h
  by_cases h3 : m < 2
  · clear h2
    go_enter Try.func4, Try.ntmps4
    go_wp2_with (first | (go_at_call 15; refine (awake07 _).mono ?_; rintro e w' ⟨rfl, hbw⟩) | (go_at_call 16; refine (streakNew_no _ m (.inl h3)).mono ?_; rintro e w' ⟨rfl, rfl⟩))
    go_ret
    exact ⟨rfl, hbw⟩
  · have h4 : 1024 < m := by omega
    clear h2
    go_enter Try.func4, Try.ntmps4
    go_wp2_with (first | (go_at_call 15; refine (awake07 _).mono ?_; rintro e w' ⟨rfl, hbw⟩) | (go_at_call 16; refine (streakNew_no _ m (.inr h4)).mono ?_; rintro e w' ⟨rfl, rfl⟩))
    go_ret
    exact ⟨rfl, hbw⟩

theorem new_cells2 (W : World) (o : Obj) (t : TypeId) (cs : List Value) : ∀ (j : Nat) (u : Value), cs[j]? = some u → ((W.alloc o).alloc (.cells cs.toArray t)).cell? ((⟨W.heap.size + 1, 0, none⟩ : Addr).add j) = some u := by
  intro j u hu
  have := (Ob.new (W.alloc o) t cs).cell j
  rw [World.size_alloc] at this
  rw [Go.WideShapes.add_plain, Nat.zero_add]
  exact this.trans hu
theorem one3 (a b c : Int) : ∀ u ∈ ([.int .i64 a, .int .i64 b, .int .i64 c] : List Value), u.oneCell' = true := by simp [Value.oneCell']
theorem own_lt {w : World} {base n size : Nat} {e : TypeId} {v : Value} {xs : List Value} (h : w.ownsRow base e size v n xs) (k : Nat) (hk : v.ownBlock = some k) : k < w.heap.size := by
  rcases h.2 with ⟨rfl, _⟩ | ⟨g, cap, cur, rfl, hb, hh, _⟩
  · simp [Value.ownBlock] at hk
  · have : g = k := by simpa [Value.ownBlock] using hk
    subst this
    exact (Array.getElem?_eq_some_iff.1 hh).1
theorem refCount_nil (w : World) : Calls Try.prog 21 #[.slice none 0 0] w fun e w' => e = .returned (.int .i64 0) ∧ ∃ m, w' = w.drewN m := refCount_any w none 0 0 [] (Rd.nil _ _) rfl (by omega)
theorem refTripped_nil (w : World) (m : Int) : Calls Try.prog 20 #[.slice none 0 0, .int .i64 m] w fun e w' => e = .returned (.bool false) ∧ ∃ k, w' = w.drewN k := refTripped_any w none 0 0 m [] (Rd.nil _ _) rfl (by omega) (by omega) (by omega)

set_option maxHeartbeats 1000000 in
set_option maxRecDepth 100000 in
theorem streakPlays_in (w : World) (m : Int) (A : Option Addr) (n c : Nat) (l : List (Bool × Int × Int × Int)) (hr : Rd w A n 4 (l.flatMap opCells)) (hl : l.length = n) (h1 : n ≤ 100) (h2 : 2 ≤ m) (h3 : m ≤ 1024) :
    Calls Try.prog 4 #[.int .i64 m, .slice A n c] w fun e w' => e = .returned (.bool true) ∧ Below w.heap.size w w' := by
  obtain ⟨i0, hi0, hz0, hz1, hz2⟩ := info_parts info35
  have HI := Lib.hid hi0
  have HZ0 := Lib.hid hz0
  have HZ1 := Lib.hid hz1
  have HZ2 := Lib.hid hz2
  have HR := Lib.hid hr
  have HL := Lib.hid hl
  clear hr hl hi0 hz0 hz1 hz2
  go_enter Try.func4, Try.ntmps4
  go_wp2_with fail
  refine (awake07 _).mono ?_
  rintro e w1 ⟨rfl, hbw⟩
  go_wp2_with fail
  refine (streakNew_yes _ m h2 h3).mono ?_
  rintro e w2 ⟨rfl, rfl⟩
  go_wp2_with fail
  refine cutW (fun W => PlayAt w.heap.size w1.heap.size w W m (.slice none 0 0) 0) ?_ ?_
  · exact ⟨[], (0, 0, 0), Ob.new w1 42 [.int .i64 m, .int .i64 0, .int .i64 0, .int .i64 0, .int .i64 0, .bool false], own_nil _ _ _ _, by simp, fun h => absurd rfl h, hbw.size, hbw.trans (((Below.refl _ _).alloc (Nat.le_refl _) _).mono hbw.size)⟩
  intro W hT
  have Hst : w.heap.size ≤ w1.heap.size := hbw.size
  generalize w1.heap.size = s at *
  clear hbw
  clear w1
  go_loopw [7, 40] (fun v i wr => ∃ k : Nat, k ≤ n ∧ i = .int .i64 k ∧ PlayAt w.heap.size s w wr m v k) (fun _ i _ => n - (intOf i).toNat)
  case atStart => exact ⟨0, by omega, rfl, hT⟩
  case round =>
    clear hT
    obtain ⟨k, hk, rfl, fl, f, hO, hown, hfl, hf, hBs, hb⟩ := hrel
    obtain ⟨Av, cv, rfl, -, -, -⟩ := own_shape hown
    by_cases hlt : k < n
    · obtain ⟨x, hx⟩ : ∃ x, l[k]? = some x := ⟨_, List.getElem?_eq_getElem (by have := HL.out; omega)⟩
      obtain ⟨b, off, hA, hbl, hcell⟩ := HR.out.2.2 (by omega)
      subst hA
      have a0 := (hb.cell (p := ⟨b, off + k * 4, none⟩) hbl).trans (hcell _ _ (flat_at opCells 4 (fun _ => rfl) l k 0 x hx (by omega)))
      have a1 := (hb.cell (p := ⟨b, off + k * 4 + 1, none⟩) hbl).trans (hcell _ _ (flat_at opCells 4 (fun _ => rfl) l k 1 x hx (by omega)))
      have a2 := (hb.cell (p := ⟨b, off + k * 4 + 2, none⟩) hbl).trans (hcell _ _ (flat_at opCells 4 (fun _ => rfl) l k 2 x hx (by omega)))
      have a3 := (hb.cell (p := ⟨b, off + k * 4 + 3, none⟩) hbl).trans (hcell _ _ (flat_at opCells 4 (fun _ => rfl) l k 3 x hx (by omega)))
      obtain ⟨oc, ov, oq, op⟩ := x
      clear hcell hx
      have hsw := hO.lt
      cases oc with
      | true =>
        go_wp2_with fail
        have hO1 := hO.alloc (.cells #[.bool true, .int .i64 ov, .int .i64 oq, .int .i64 op] 23)
        refine (clear_some _ s _ _ _ _ _ _ hO1 (by omega)).mono ?_
        rintro e w2 ⟨rfl, hO2, hU2⟩
        have hb2 : Below w.heap.size w w2 := Below.upd (hb.alloc hb.size _) hU2 hBs (by have := hb.size; simp; omega)
        clear hO1 hU2 hO hb a0 a1 a2 a3 hown hf
        go_wp2_with fail
        refine (count_some _ _ _ _ _ _ _ _ hO2 (by omega)).mono ?_
        rintro e w3 ⟨rfl, rfl⟩
        go_wp2_with fail
        refine (refCount_nil _).mono ?_
        rintro e w3 ⟨rfl, d, rfl⟩
        go_wp2_with fail
        refine (tripped_some _ _ _ _ _ _ _ _ (hO2.drewN d) (by omega)).mono ?_
        rintro e w3 ⟨rfl, rfl⟩
        go_wp2_with fail
        refine (refTripped_nil _ m).mono ?_
        rintro e w3 ⟨rfl, d2, rfl⟩
        go_wp2_with fail
        go_roundw
        case rel => exact ⟨k + 1, by omega, by go_num, [], (0, 0, 0), hO2.drewN _, own_nil _ _ _ _, by simp, fun h => absurd rfl h, hBs, Below.drewN hb2 _⟩
        case measure => simp [intOf]; omega
      | false =>
        have hcl := cntL_le fl
        have hnc := nc_last fl f (ov, oq, op) hf
        have htr := tripL_snoc fl (ov, oq, op) m
        have Hnc := Lib.hid hnc
        have Htr := Lib.hid htr
        clear hnc htr hf
        have Hc1 := Lib.hid (new_cells2 wr (.cells #[.bool false, .int .i64 ov, .int .i64 oq, .int .i64 op] 23) 35 [.int .i64 ov, .int .i64 oq, .int .i64 op])
        have Hc3 : Hid (fl.length + 1 ≤ maxLen) := by show _ ≤ _; simp only [maxLen]; omega
        have Hc4 : Hid ((fl.length + 1) * 24 ≤ 140737488355328) := by show _ ≤ _; omega
        have Hc5 : Hid (s + 1 ≤ ((wr.alloc (.cells #[.bool false, .int .i64 ov, .int .i64 oq, .int .i64 op] 23)).alloc (.cells #[.int .i64 ov, .int .i64 oq, .int .i64 op] 35)).heap.size) := by show _ ≤ _; simp; omega
        have Hob := Lib.hid ((Ob.new wr 23 [.bool false, .int .i64 ov, .int .i64 oq, .int .i64 op]).alloc (.cells #[.int .i64 ov, .int .i64 oq, .int .i64 op] 35))
        have Hos := Lib.hid ((hO.alloc (.cells #[.bool false, .int .i64 ov, .int .i64 oq, .int .i64 op] 23)).alloc (.cells #[.int .i64 ov, .int .i64 oq, .int .i64 op] 35))
        have Hbw := Lib.hid ((hb.alloc hb.size (.cells #[.bool false, .int .i64 ov, .int .i64 oq, .int .i64 op] 23)).alloc (by have := hb.size; simp; omega) (.cells #[.int .i64 ov, .int .i64 oq, .int .i64 op] 35))
        have Hown := Lib.hid hown
        have hws := hb.size
        clear hO hb hown
        go_wp2_with (at_builtin; refine wpList_append_own _ rfl (.tmp 48) (.tmp 56) 33 rfl (s + 1) 35 i0 _ 3 24 Try.underlying33 HI.out HZ0.out HZ1.out HZ2.out rfl (by decide) _ fl.length _ rfl ((Hown.out.alloc _).alloc _) _ 1 1 [.int .i64 ov, .int .i64 oq, .int .i64 op] rfl rfl Hc1.out (one3 _ _ _) Hc3.out Hc4.out Hc5.out (fun v2 w2 hown2 hg2 _ => ?_); have hob := Hob.out.grown hg2 (fun k hk => by have := own_lt Hown.out k hk; omega); have hO2 := Hos.out.grown hg2 (fun k hk => by have := own_block Hown.out k hk; omega); have hb2 := Hbw.out.grown hg2 (by simp; omega) (fun k hk => by have := own_block Hown.out k hk; omega); have hcell := hob.cell; clear hg2)
        have hlap : List.flatMap fcells fl ++ [.int .i64 ov, .int .i64 oq, .int .i64 op] = (fl ++ [(ov, oq, op)]).flatMap fcells := by simp [fcells]
        rw [hlap] at hown2
        obtain ⟨A2, c2, rfl, hR2, hc2, hc3⟩ := own_shape hown2
        have hlen : (fl ++ [(ov, oq, op)]).length = fl.length + 1 := by simp
        have Hlast := Lib.hid (show fl ++ [(ov, oq, op)] ≠ [] → (fl ++ [(ov, oq, op)]).getLast? = some (ov, oq, op) from fun _ => by simp)
        generalize fl ++ [(ov, oq, op)] = fl2 at *
        clear Hos Hob Hbw Hc1 Hc3 Hc4 Hc5 hlap hcell
        refine (note_any _ s m ov oq op _ _ _ _ _ hO2 (by omega) (by omega) (by omega) _ _ Hnc.out.symm Htr.out).mono ?_
        rintro e w3 ⟨rfl, hO3, hU3⟩
        have hown3 := own_upd hown2 hU3 (by omega)
        have hb3 : Below w.heap.size w w3 := Below.upd hb2 hU3 hBs (by have := hb2.size; omega)
        have Hlen := Lib.hid hlen
        clear hO2 hU3 hown2 hb2 hR2 hlen hob
        have Hrt : ∀ W : World, W.ownsRow (s + 1) 35 3 (.slice A2 (fl.length + 1) c2) (fl.length + 1) (fl2.flatMap fcells) → Calls Try.prog 20 #[.slice A2 (fl.length + 1) c2, .int .i64 m] W fun e w' => e = .returned (.bool (tripL fl2 m)) ∧ ∃ k, w' = W.drewN k :=
          fun W h => refTripped_any W A2 _ c2 m fl2 (Rd.of_own h) Hlen.out (by omega) hc2 hc3
        have Hrc : ∀ W : World, W.ownsRow (s + 1) 35 3 (.slice A2 (fl.length + 1) c2) (fl.length + 1) (fl2.flatMap fcells) → Calls Try.prog 21 #[.slice A2 (fl.length + 1) c2] W fun e w' => e = .returned (.int .i64 (cntL fl2)) ∧ ∃ k, w' = W.drewN k :=
          fun W h => refCount_any W A2 _ c2 fl2 (Rd.of_own h) Hlen.out (by omega)
        have hcle := cntL_le fl2
        generalize hcc : cntL fl2 = cc at *
        generalize htt : tripL fl2 m = tt at *
        have Hcc := Lib.hid hcc
        have Htt := Lib.hid htt
        have HRt := Lib.hid Hrt
        have HRc := Lib.hid Hrc
        clear hcc htt Hrt Hrc
        go_wp2_with fail
        refine (HRt.out _ hown3).mono ?_
        rintro e w4 ⟨rfl, d1, rfl⟩
        go_wp2_with fail
        refine (count_some _ _ _ _ _ _ _ _ (hO3.drewN d1) (by omega)).mono ?_
        rintro e w4 ⟨rfl, rfl⟩
        go_wp2_with fail
        refine (HRc.out _ (own_drewN hown3 d1)).mono ?_
        rintro e w4 ⟨rfl, d2, rfl⟩
        go_wp2_with fail
        refine (tripped_some _ _ _ _ _ _ _ _ (hO3.drewN _) (by omega)).mono ?_
        rintro e w4 ⟨rfl, rfl⟩
        go_wp2_with fail
        refine (HRt.out _ (own_drewN hown3 _)).mono ?_
        rintro e w4 ⟨rfl, d3, rfl⟩
        go_wp2_with fail
        go_roundw
        case rel => exact ⟨k + 1, by omega, by go_num, fl2, (ov, oq, op), by rw [Hcc.out, Htt.out]; exact hO3.drewN _, by rw [Hlen.out]; exact own_drewN hown3 _, by rw [Hlen.out]; omega, Hlast.out, hBs, Below.drewN hb3 _⟩
        case measure => simp [intOf]; omega
    · go_wp2
      go_ret
      exact ⟨rfl, hb⟩

theorem streakPlays_walk (w : World) (m : Int) (A : Option Addr) (n c : Nat) (l : List (Bool × Int × Int × Int)) (hr : Rd w A n 4 (l.flatMap opCells)) (hl : l.length = n) :
    Calls Try.prog 4 #[.int .i64 m, .slice A n c] w fun e w' => e = .returned (.bool true) ∧ Below w.heap.size w w' := by
  by_cases h : 100 < n ∨ m < 2 ∨ 1024 < m
  · exact streakPlays_out w m A n c hr.2.1 h
  · exact streakPlays_in w m A n c l hr hl (by omega) (by omega) (by omega)

end Go.Proofs.Ytfmmaigaanikgaa
