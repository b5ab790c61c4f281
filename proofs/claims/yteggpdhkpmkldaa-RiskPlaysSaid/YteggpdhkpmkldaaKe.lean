import Derived.Test.YteggpdhkpmkldaaKd
namespace Go.Proofs.Yteggpdhkpmkldaa
open Go.RowKit

set_option maxHeartbeats 400000 in
theorem kReserve_arg (w : World) (b gp gh cp : Nat) (ps : List Purse) (hs : List Hold) (a s n : Int) (h : BkAt w b gp gh cp ps hs) (hbad : inB ps.length a = false ∨ inB hs.length s = false ∨ inLim n = false) :
    Calls Try.prog 25 #[.pointer (some ⟨b, 0, none⟩), .int .i64 a, .int .i64 s, .int .i64 n] w fun e w' => e = .returned (.int .i64 2) ∧ ∃ k, w' = w.drewN k := by
  have HP := Lib.hid h
  clear h
  cases h1 : inB ps.length a with
  | false =>
    have H1 := Lib.hid h1
    clear h1 hbad
    go_enter Try.func25, Try.ntmps25
    go_wp2_with (first | (go_at_call 56; refine (HP.out.is_ 0).mono ?_; rintro e w' ⟨rfl, rfl⟩) | (go_at_call 57; refine (HP.out.account_ a false H1.out 0).mono ?_; rintro e w' ⟨rfl, k, rfl⟩))
    go_ret
    exact ⟨rfl, _, rfl⟩
  | true =>
    have H1 := Lib.hid h1
    cases h2 : inB hs.length s with
    | false =>
      have H2 := Lib.hid h2
      clear h1 hbad h2
      go_enter Try.func25, Try.ntmps25
      go_wp2_with (first | (go_at_call 56; refine (HP.out.is_ 0).mono ?_; rintro e w' ⟨rfl, rfl⟩) | (go_at_call 57; refine (HP.out.account_ a true H1.out 0).mono ?_; rintro e w' ⟨rfl, k, rfl⟩) | (go_at_call 58; refine (HP.out.slot_ s false H2.out _).mono ?_; rintro e w' ⟨rfl, k, rfl⟩))
      go_ret
      exact ⟨rfl, _, rfl⟩
    | true =>
      have h3 : (decide (0 ≤ n) && decide (n ≤ 4611686018427387904)) = false := by
        rcases hbad with h | h | h
        · rw [h1] at h; cases h
        · rw [h2] at h; cases h
        · exact h
      have H2 := Lib.hid h2
      have H3 := Lib.hid h3
      clear h1 hbad h2 h3
      go_enter Try.func25, Try.ntmps25
      go_wp2_with (first | (go_at_call 56; refine (HP.out.is_ 0).mono ?_; rintro e w' ⟨rfl, rfl⟩) | (go_at_call 57; refine (HP.out.account_ a true H1.out 0).mono ?_; rintro e w' ⟨rfl, k, rfl⟩) | (go_at_call 58; refine (HP.out.slot_ s true H2.out _).mono ?_; rintro e w' ⟨rfl, k, rfl⟩) | (go_at_call 55; refine (kWithin _ _ _ _).mono ?_; rintro e w' ⟨rfl, rfl⟩; rw [H3.out]))
      go_ret
      exact ⟨rfl, _, rfl⟩

set_option maxHeartbeats 800000 in
theorem kReserve_twice (w : World) (b gp gh cp a s : Nat) (ps : List Purse) (hs : List Hold) (n : Int) (x : Hold) (h : BkAt w b gp gh cp ps hs) (ha : a < ps.length) (hx : hs[s]? = some x) (hn : inLim n = true) (h0 : (x.1 == false && (x.2.1 == 0 && (x.2.2 == 0 && true))) = false) :
    Calls Try.prog 25 #[.pointer (some ⟨b, 0, none⟩), .int .i64 a, .int .i64 s, .int .i64 n] w fun e w' => e = .returned (.int .i64 41) ∧ ∃ k, w' = w.drewN k := by
  have hlt : s < hs.length := (List.getElem?_eq_some_iff.1 hx).1
  have HP := Lib.hid h
  have H1 := Lib.hid (inB_lt ha)
  have H2 := Lib.hid (inB_lt hlt)
  have h3 : (decide (0 ≤ n) && decide (n ≤ 4611686018427387904)) = true := hn
  have H3 := Lib.hid h3
  have hc := h.ho.cell
  obtain ⟨c0, c1, c2⟩ := h.hs3 hx
  have hneq := neq112 x.1 false x.2.1 x.2.2 0 0 _ h0
  have hg := guard112
  clear h ha h3 hn h0 hx
  go_enter Try.func25, Try.ntmps25
  go_wp2_with (first | (go_at_call 56; refine (HP.out.is_ 0).mono ?_; rintro e w' ⟨rfl, rfl⟩) | (go_at_call 57; refine (HP.out.account_ a true H1.out 0).mono ?_; rintro e w' ⟨rfl, k, rfl⟩) | (go_at_call 58; refine (HP.out.slot_ s true H2.out _).mono ?_; rintro e w' ⟨rfl, k, rfl⟩) | (go_at_call 55; refine (kWithin _ _ _ _).mono ?_; rintro e w' ⟨rfl, rfl⟩; rw [H3.out]))
  go_ret
  exact ⟨rfl, _, rfl⟩

set_option maxHeartbeats 800000 in
theorem kReserve_limit (w : World) (b gp gh cp a s : Nat) (ps : List Purse) (hs : List Hold) (n : Int) (p : Purse) (h : BkAt w b gp gh cp ps hs) (hp : ps[a]? = some p) (ho : POk p) (hx : hs[s]? = some hold0) (hn : inLim n = true) (hl : p.1 - p.2.1 - p.2.2 < n) :
    Calls Try.prog 25 #[.pointer (some ⟨b, 0, none⟩), .int .i64 a, .int .i64 s, .int .i64 n] w fun e w' => e = .returned (.int .i64 170) ∧ Mods (fun _ => False) w w' := by
  have hlt : s < hs.length := (List.getElem?_eq_some_iff.1 hx).1
  have ha : a < ps.length := (List.getElem?_eq_some_iff.1 hp).1
  have HP := Lib.hid h
  have H1 := Lib.hid (inB_lt ha)
  have H2 := Lib.hid (inB_lt hlt)
  have h3 : (decide (0 ≤ n) && decide (n ≤ 4611686018427387904)) = true := hn
  have H3 := Lib.hid h3
  have hc := h.ho.cell
  obtain ⟨c0, c1, c2⟩ := h.hs3 hx
  simp only [hold0] at c0 c1 c2
  obtain ⟨d0, d1, d2⟩ := h.ps3 hp
  obtain ⟨o1, o2, o3, o4, o5⟩ := ho
  have hneq := neq112 false false 0 0 0 0 true rfl
  have hg := guard112
  clear h h3 hn hx hp
  go_enter Try.func25, Try.ntmps25
  go_wp2_with (first | (go_at_call 56; refine (HP.out.is_ 0).mono ?_; rintro e w' ⟨rfl, rfl⟩) | (go_at_call 57; refine (HP.out.account_ a true H1.out 0).mono ?_; rintro e w' ⟨rfl, k, rfl⟩) | (go_at_call 58; refine (HP.out.slot_ s true H2.out _).mono ?_; rintro e w' ⟨rfl, k2, rfl⟩) | (go_at_call 55; refine (kWithin _ _ _ _).mono ?_; rintro e w' ⟨rfl, rfl⟩; rw [H3.out]) | (go_at_call 59; refine (kLeft_any _ p.1 p.2.1 p.2.2 (by omega) (by omega)).mono ?_; rintro e w' ⟨rfl, k3, rfl⟩))
  go_ret
  exact ⟨rfl, (((Mods.refl _ w).drewN _).alloc _).drewN _⟩

set_option maxHeartbeats 800000 in
set_option maxRecDepth 100000 in
theorem kReserve_ok (w : World) (b gp gh cp a s : Nat) (ps : List Purse) (hs : List Hold) (n : Int) (p : Purse) (h : BkAt w b gp gh cp ps hs) (hp : ps[a]? = some p) (ho : POk p) (hx : hs[s]? = some hold0) (hn : inLim n = true) (hl : n ≤ p.1 - p.2.1 - p.2.2) :
    Calls Try.prog 25 #[.pointer (some ⟨b, 0, none⟩), .int .i64 a, .int .i64 s, .int .i64 n] w fun e w' => e = .returned (.int .i64 0) ∧ BkAt w' b gp gh cp (ps.set a (p.1, p.2.1 + n, p.2.2)) (hs.set s (true, (a : Int), n)) ∧ Mods (fun k => k = gp ∨ k = gh) w w' := by
  have hlt : s < hs.length := (List.getElem?_eq_some_iff.1 hx).1
  have ha : a < ps.length := (List.getElem?_eq_some_iff.1 hp).1
  have HP := Lib.hid h
  have H1 := Lib.hid (inB_lt ha)
  have H2 := Lib.hid (inB_lt hlt)
  have h3 : (decide (0 ≤ n) && decide (n ≤ 4611686018427387904)) = true := hn
  have hn0 : 0 ≤ n := by simp at h3; omega
  have H3 := Lib.hid h3
  have hc := h.ho.cell
  obtain ⟨c0, c1, c2⟩ := h.hs3 hx
  simp only [hold0] at c0 c1 c2
  obtain ⟨d0, d1, d2⟩ := h.ps3 hp
  obtain ⟨o1, o2, o3, o4, o5⟩ := ho
  have hneq := neq112 false false 0 0 0 0 true rfl
  have hg := guard112
  have Hx := Lib.hid hx
  have Hp := Lib.hid hp
  clear h h3 hn hx hp
  go_enter Try.func25, Try.ntmps25
  go_upto_region 9 with (first | (go_at_call 56; refine (HP.out.is_ 0).mono ?_; rintro e w' ⟨rfl, rfl⟩) | (go_at_call 57; refine (HP.out.account_ a true H1.out 0).mono ?_; rintro e w' ⟨rfl, k, rfl⟩) | (go_at_call 58; refine (HP.out.slot_ s true H2.out _).mono ?_; rintro e w' ⟨rfl, k2, rfl⟩) | (go_at_call 55; refine (kWithin _ _ _ _).mono ?_; rintro e w' ⟨rfl, rfl⟩; rw [H3.out]) | (go_at_call 59; refine (kLeft_any _ p.1 p.2.1 p.2.2 (by omega) (by omega)).mono ?_; rintro e w' ⟨rfl, k3, rfl⟩))
  refine cutW (fun W => BkAt W b gp gh cp ps hs ∧ Mods (fun k => k = gp ∨ k = gh) w W) ⟨((HP.out.drewN _).alloc _).drewN _, (((Mods.refl _ w).drewN _).alloc _).drewN _⟩ ?_
  clear hc c0 c1 c2 d0 d1 d2 hneq hg
  rintro W ⟨hB, hM⟩
  have hc := hB.ho.cell
  obtain ⟨c0, c1, c2⟩ := hB.hs3 Hx.out
  have hz := hB.hh.frozen
  have HB := Lib.hid hB
  clear hB
  go_upto_region 10 with (fail)
  refine cutW (fun W => BkAt W b gp gh cp ps (hs.set s (true, (a : Int), n)) ∧ Mods (fun k => k = gp ∨ k = gh) w W) ⟨HB.out.setH Hx.out, ((hM.setCell (⟨gh, s * 3, none⟩ : Addr) (.inl (.inr rfl)) _).setCell (⟨gh, s * 3 + 1, none⟩ : Addr) (.inl (.inr rfl)) _).setCell (⟨gh, s * 3 + 2, none⟩ : Addr) (.inl (.inr rfl)) _⟩ ?_
  clear hc c0 c1 c2 hz HB hM
  rintro W2 ⟨hB, hM⟩
  have hc := hB.ho.cell
  obtain ⟨d0, d1, d2⟩ := hB.ps3 Hp.out
  have hz := hB.pfroz
  have HB := Lib.hid hB
  clear hB
  have hw : IntKind.i64.wrap (p.2.1 + n) = p.2.1 + n := by rw [IntWalk.i64_in _ (by omega)]
  go_wp2_with fail
  go_ret
  exact ⟨rfl, HB.out.setP (j := 1) Hp.out (by omega) rfl, hM.setCell (⟨gp, a * 3 + 1, none⟩ : Addr) (.inl (.inl rfl)) _⟩

end Go.Proofs.Yteggpdhkpmkldaa
