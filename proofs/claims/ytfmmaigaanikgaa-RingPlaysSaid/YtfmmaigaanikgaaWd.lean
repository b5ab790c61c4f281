import Derived.Test.YtfmmaigaanikgaaWc
import Derived.Deep.DeepCutAuto
namespace Go.Proofs.Ytfmmaigaanikgaa
open Go.RowKit

/-- A window whose row is the call's own, from block 'base' on. -/
structure WinO (w : World) (b base : Nat) (wd mo : Int) (v : Value) (ts : List Int) : Prop where
  ho : Ob w b 67 [.int .i64 wd, .int .i64 mo, v]
  hown : w.ownsRow base 3 1 v ts.length (ts.map (Value.int .i64))
  hm : 1 ≤ mo ∧ mo ≤ 1024
  hw : 1 ≤ wd ∧ wd ≤ 1073741824
  hb : ∀ t ∈ ts, 0 ≤ t ∧ t ≤ 1099511627776
  hn : (ts.length : Int) ≤ mo
theorem WinO.drewN {w : World} {b base : Nat} {wd mo : Int} {v : Value} {ts : List Int} (h : WinO w b base wd mo v ts) (k : Nat) : WinO (w.drewN k) b base wd mo v ts := ⟨h.1, h.2, h.3, h.4, h.5, h.6⟩
theorem WinO.r {w : World} {b base : Nat} {wd mo : Int} {v : Value} {ts : List Int} (h : WinO w b base wd mo v ts) : ∃ A c, v = .slice A ts.length c ∧ WinR w b wd mo A ts.length c ts ∧ ts.length ≤ c := by
  obtain ⟨A, c, rfl, hr, hc, _⟩ := own_shape h.hown
  exact ⟨A, c, rfl, ⟨h.ho, hr, rfl, h.hm, h.hw, h.hb, by have := h.hn; have := h.hm; omega⟩, hc⟩
theorem WinO.mods {w w' : World} {b base : Nat} {wd mo : Int} {v : Value} {ts : List Int} {S : Nat → Prop} (h : WinO w b base wd mo v ts) (hm : Mods S w w') (hb : ¬ S b) (hv : ∀ k, v.ownBlock = some k → ¬ S k) : WinO w' b base wd mo v ts :=
  ⟨h.ho.mods hm hb, own_mods h.hown hm hv, h.3, h.4, h.5, h.6⟩

/-- 'copy(x, x[1:])' on a row of the call's own: behind it the row without its last place reads as the list without its first. -/
theorem copy_shift {P : Program} {w : World} {ops : Array Oper} {rest : List Oper} {o : Oper} {a : Act} {Q : Exit → Act → World → Prop} (hgd : o.guard = none) (d s : Operand) (t : TypeId)
    (ho : o.op = .call { callee := .builtin .copy, args := #[d, s], argTypes := #[t, t] }) (e : TypeId) (hu : P.underlying t = some (.slice e)) (hsz : (P.info? e).map (·.size) = some 1)
    (base g q c c' : Nat) (xs : List Value) (hown : w.ownsRow base e 1 (.slice (some ⟨g, 0, none⟩) (q + 1) c) (q + 1) xs) (h1 : ∀ u ∈ xs, u.oneCell' = true)
    (A' : Option Addr) (hd : a.eval d = .slice (some ⟨g, 0, none⟩) (q + 1) c) (hs : a.eval s = .slice A' q c') (hA : 0 < q → A' = some ⟨g, 1, none⟩)
    (h : ∀ w', w'.ownsRow base e 1 (.slice (some ⟨g, 0, none⟩) q c) q (xs.drop 1) → Mods (fun k => k = g) w w' → wpList P ops Q rest (a.put o.dst (goInt q)) w') : wpList P ops Q (o :: rest) a w := by
  have hx := hown.1
  rcases hown.2 with ⟨h0, _⟩ | ⟨g', cap, cur, hv, hb, hh, hn, hcap, hs2, ht⟩
  · cases h0
  injection hv with e1 e2 e3
  injection e1 with e1
  injection e1 with e1 _ _
  subst e1; subst e3
  rcases Nat.eq_zero_or_pos q with hq | hq
  · subst hq
    refine wpList_copy_nothing hgd d s t t ho e hu hsz _ _ _ _ _ _ hd hs (by simp) ?_
    refine h w ⟨by simp [hx], .inr ⟨g, c, cur, rfl, hb, hh, by omega, hcap, hs2, ?_⟩⟩ (Mods.refl _ _)
    have : xs.drop 1 = [] := List.eq_nil_of_length_eq_zero (by simp [hx])
    rw [this]; simp
  · rw [hA hq] at hs
    have hlen : (xs.drop 1).length = q := by simp [hx]
    have hcs : cur.toList.length = c := by simpa using hs2
    refine wpList_copy_own hgd d s t t ho e hu hsz g 0 (q + 1) c ⟨g, 1, none⟩ q c' hd hs cur e hh (xs.drop 1) (by rw [hlen]; simp) ?_ (by rw [hlen]; simp at hcs; omega) (fun u hu => h1 u (List.mem_of_mem_drop hu)) ?_
    · intro j u hu
      have := hown.cells (g := g) rfl (j + 1) u (by rw [← hu, List.getElem?_drop, Nat.add_comm])
      rw [Go.WideShapes.add_plain] at this ⊢
      rw [show 1 + j = 0 + (j + 1) by omega]
      exact this
    · rw [hlen]
      refine h _ ⟨by simp [hx], .inr ⟨g, c, _, rfl, hb, setRow_heap w g cur _ e (0, 0) hh, by omega, hcap, ?_, ?_⟩⟩ ⟨rfl, rfl, rfl, by simp, fun k _ hk => setRow_other w g k _ hk⟩
      · simp [hx]; simp at hcs; omega
      · simp [hx]

/-- The ticks behind one more. -/
def tkW (mo : Int) (ts : List Int) (now : Int) : List Int := (if (ts.length : Int) = mo then ts.drop 1 else ts) ++ [now]

set_option maxHeartbeats 400000 in
set_option maxRecDepth 100000 in
theorem wTake_wrong (w : World) (b n c : Nat) (wd mo now : Int) (A : Option Addr) (ts : List Int) (h : WinR w b wd mo A n c ts) (hr : rightB ts now = false) :
    Calls Try.prog 40 #[.pointer (some ⟨b, 0, none⟩), .int .i64 now] w fun e w' => e = .returned (.int .i64 2) ∧ ∃ k, w' = w.drewN k := by
  have hm : decide (0 < mo) = true := by have := h.hm; simp; omega
  have hcell : w.cell? ⟨b, 1, none⟩ = some (.int .i64 mo) := h.ho.cell 1
  have HR := Lib.hid hr
  clear hr
  go_enter Try.func40, Try.ntmps40
  go_wp2_with (first | (go_at_call 61; refine (wIs_some w b mo hcell true hm).mono ?_; rintro e w' ⟨rfl, rfl⟩) | (go_at_call 62; refine (wRight_q w b n c 0 wd mo now A ts h false HR.out).mono ?_; rintro e w' ⟨rfl, k, rfl⟩))
  go_ret
  exact ⟨rfl, _, rfl⟩

set_option maxHeartbeats 400000 in
set_option maxRecDepth 100000 in
theorem wTake_full (w : World) (b n c : Nat) (wd mo now : Int) (A : Option Addr) (ts : List Int) (h : WinR w b wd mo A n c ts) (hr : rightB ts now = true) (hf : mo ≤ cntW wd now ts) :
    Calls Try.prog 40 #[.pointer (some ⟨b, 0, none⟩), .int .i64 now] w fun e w' => e = .returned (.int .i64 60) ∧ ∃ k, w' = w.drewN k := by
  have hm : decide (0 < mo) = true := by have := h.hm; simp; omega
  have hcell : w.cell? ⟨b, 1, none⟩ = some (.int .i64 mo) := h.ho.cell 1
  have HR := Lib.hid hr
  generalize hx : cntW wd now ts = y at *
  have HX := Lib.hid hx
  have hge : decide (mo ≤ (y : Int)) = true := by simp; omega
  clear hr hx
  go_enter Try.func40, Try.ntmps40
  go_wp2_with (first | (go_at_call 61; refine (wIs_some w b mo hcell true hm).mono ?_; rintro e w' ⟨rfl, rfl⟩) | (go_at_call 62; refine (wRight_q w b n c 0 wd mo now A ts h true HR.out).mono ?_; rintro e w' ⟨rfl, k, rfl⟩))
  go_quiet ((go_at_call 43; exact wCount_qq w b n c _ _ wd mo now A ts h HR.out y HX.out))
  go_wp2
  go_ret
  exact ⟨rfl, _, by rw [World.drewN_drewN]⟩

theorem info3 : (Try.prog.info? 3).map (fun i => (i.zero, i.size, i.bytes)) = some (some (.int .i64 0), 1, 8) := by kernel_rfl
theorem one1 (a : Int) : ∀ u ∈ ([.int .i64 a] : List Value), u.oneCell' = true := by simp [Value.oneCell']

theorem info3s : (Try.prog.info? 3).map (·.size) = some 1 := by kernel_rfl
theorem one_ints (ts : List Int) : ∀ u ∈ ts.map (Value.int .i64), u.oneCell' = true := by
  intro u hu
  obtain ⟨x, _, rfl⟩ := List.mem_map.1 hu
  simp [Value.oneCell']
/-- What Take leaves where it takes. -/
def TookP (w : World) (b base : Nat) (wd mo : Int) (v : Value) (ts : List Int) (now : Int) (e : Ending) (w' : World) : Prop :=
  e = .returned (.int .i64 0) ∧ ∃ v', WinO w' b base wd mo v' (tkW mo ts now) ∧ Mods (fun k => k = b ∨ v.ownBlock = some k) w w' ∧ (v'.ownBlock = v.ownBlock ∨ ∃ k, v'.ownBlock = some k ∧ w.heap.size ≤ k)

set_option maxHeartbeats 400000 in
set_option maxRecDepth 100000 in
theorem wTake_less (w : World) (b base : Nat) (wd mo now : Int) (v : Value) (ts : List Int) (h : WinO w b base wd mo v ts) (hbb : b < base) (hbs : base ≤ w.heap.size) (hr : rightB ts now = true) (hf : (cntW wd now ts : Int) < mo) (hl : (ts.length : Int) ≠ mo) :
    Calls Try.prog 40 #[.pointer (some ⟨b, 0, none⟩), .int .i64 now] w (TookP w b base wd mo v ts now) := by
  obtain ⟨A, c, rfl, hR, hnc⟩ := h.r
  obtain ⟨i0, hi0, hz0, hz1, hz2⟩ := info_parts info3
  have HI := Lib.hid hi0
  have HZ0 := Lib.hid hz0
  have HZ1 := Lib.hid hz1
  have HZ2 := Lib.hid hz2
  clear hi0 hz0 hz1 hz2
  have hm : decide (0 < mo) = true := by have := h.hm; simp; omega
  have hcell := h.ho.cell
  have hz := h.ho.frozen
  have hbl := h.ho.lt
  have HR := Lib.hid hr
  have hge : decide (mo ≤ (cntW wd now ts : Int)) = false := by simp; omega
  have hne : ((ts.length : Int) == mo) = false := by simpa using hl
  have hn9 := hR.hn
  obtain ⟨hr0, hr9, _⟩ := rightB_iff.1 hr
  generalize hx : cntW wd now ts = y at *
  have HX := Lib.hid hx
  have HF := Lib.hid (show tkW mo ts now = ts ++ [now] by rw [tkW, if_neg hl])
  have HH := Lib.hid h
  have HR2 := Lib.hid hR
  clear hr hx hl h hR hf
  have HO := Lib.hid HH.out.hown
  generalize hnn : ts.length = n at *
  have HN := Lib.hid hnn
  clear hnn
  go_enter Try.func40, Try.ntmps40
  go_wp2_with (first | (go_at_call 61; refine (wIs_some w b mo (hcell 1) true hm).mono ?_; rintro e w' ⟨rfl, rfl⟩) | (go_at_call 62; refine (wRight_q w b n c 0 wd mo now A ts HR2.out true HR.out).mono ?_; rintro e w' ⟨rfl, k, rfl⟩))
  go_quiet ((go_at_call 43; exact wCount_qq w b n c _ _ wd mo now A ts HR2.out HR.out y HX.out))
  go_wp2
  go_quiet (fail)
  have Hn3 : Hid (n + 1 ≤ 1000000) := by show _ ≤ _; omega
  have Hbs : Hid (base ≤ w.heap.size + 1) := by show _ ≤ _; omega
  go_wp2_with (at_builtin; refine append1 rfl (.tmp 60) (.tmp 62) 49 rfl base 3 i0 _ 1 8 Try.underlying49 HI.out HZ0.out HZ1.out HZ2.out rfl (by decide) _ n _ rfl (((own_drewN HO.out _).alloc (.cells #[.int .i64 now] 3))) _ [.int .i64 now] rfl (Ob.new _ 3 [.int .i64 now]) rfl (one1 _) Hn3.out (by decide) (by simpa using Hbs.out) (fun v2 w2 hown2 hg2 hat2 => ?_); obtain ⟨A2, c2, rfl, -, -, -⟩ := own_shape hown2; have ho2 := (((HH.out.ho).drewN _).alloc _).grown hg2 (fun k hk => by have := own_block HO.out k hk; omega); have hc2 := ho2.cell; have hz2 := ho2.frozen; have hl2 := ho2.lt)
  go_ret
  have hM : Mods (fun k => k = b ∨ (Value.slice A n c).ownBlock = some k) w w2 := ((((Mods.refl _ w).drewN _).alloc _).grown hg2 (fun k hk => .inl (.inr hk)))
  refine ⟨rfl, .slice A2 (n + 1) c2, ⟨ho2.set 2 _, ?_, HH.out.hm, HH.out.hw, ?_, ?_⟩, hM.setCell _ (.inl (.inl rfl)) _, ?_⟩
  · rw [HF.out, List.length_append, HN.out, List.map_append]
    exact own_upd hown2 (Upd.set (Upd.refl b w2) 2 _) hbb
  · rw [HF.out]
    intro t ht
    rcases List.mem_append.1 ht with ht | ht
    · exact HH.out.hb t ht
    · simp at ht; subst ht; exact ⟨hr0, hr9⟩
  · rw [HF.out, List.length_append, HN.out]
    have := HH.out.hn
    have h1 : ¬ (n : Int) = mo := by simpa using hne
    have := HN.out
    simp; omega
  · rcases hat2 with h1 | h1
    · exact .inl h1
    · exact .inr ⟨_, h1, by simp⟩

set_option maxHeartbeats 400000 in
set_option maxRecDepth 100000 in
theorem wTake_roll (w : World) (b base : Nat) (wd mo now : Int) (v : Value) (ts : List Int) (h : WinO w b base wd mo v ts) (hbb : b < base) (hbs : base ≤ w.heap.size) (hr : rightB ts now = true) (hf : (cntW wd now ts : Int) < mo) (hl : (ts.length : Int) = mo) :
    Calls Try.prog 40 #[.pointer (some ⟨b, 0, none⟩), .int .i64 now] w (TookP w b base wd mo v ts now) := by
  obtain ⟨A, c, rfl, hR, hnc⟩ := h.r
  obtain ⟨i0, hi0, hz0, hz1, hz2⟩ := info_parts info3
  have HI := Lib.hid hi0
  have HZ0 := Lib.hid hz0
  have HZ1 := Lib.hid hz1
  have HZ2 := Lib.hid hz2
  clear hi0 hz0 hz1 hz2
  have hm : decide (0 < mo) = true := by have := h.hm; simp; omega
  have hm1 := h.hm.1
  have hcell := h.ho.cell
  have hz := h.ho.frozen
  have hbl := h.ho.lt
  have HR := Lib.hid hr
  have hge : decide (mo ≤ (cntW wd now ts : Int)) = false := by simp; omega
  have hne : ((ts.length : Int) == mo) = true := by simpa using hl
  have hn9 := hR.hn
  obtain ⟨hr0, hr9, _⟩ := rightB_iff.1 hr
  have hform := h.hown
  generalize hx : cntW wd now ts = y at *
  have HX := Lib.hid hx
  have HF := Lib.hid (show tkW mo ts now = ts.drop 1 ++ [now] by rw [tkW, if_pos hl])
  have HH := Lib.hid h
  have HR2 := Lib.hid hR
  have HO := Lib.hid h.hown
  have hown0 := h.hown
  clear h hR hx hr hf
  generalize hnn : ts.length = n at *
  have HN := Lib.hid hnn
  clear hnn
  obtain ⟨q, rfl⟩ : ∃ q, n = q + 1 := ⟨n - 1, by omega⟩
  obtain ⟨g, cap, hv, hbg, hgl⟩ := hown0.form (by omega)
  injection hv with e1 _ e3
  subst e1; subst e3
  have hmo : mo = (q : Int) + 1 := by omega
  subst hmo
  clear hl hform hown0
  by_cases hc1 : c = 1
  · subst hc1
    obtain rfl : q = 0 := by omega
    have hw3 : IntKind.i64.wrap 0 = 0 := rfl
    have hge1 : decide ((1 : Int) ≤ (y : Int)) = false := by have := of_decide_eq_false hge; simp; omega
    go_enter Try.func40, Try.ntmps40
    go_wp2_with (first | (go_at_call 61; refine (wIs_some w b _ (hcell 1) true hm).mono ?_; rintro e w' ⟨rfl, rfl⟩) | (go_at_call 62; refine (wRight_q w b _ _ 0 wd _ now _ ts HR2.out true HR.out).mono ?_; rintro e w' ⟨rfl, k, rfl⟩))
    go_quiet ((go_at_call 43; exact wCount_qq w b _ _ _ _ wd _ now _ ts HR2.out HR.out y HX.out))
    go_wp2
    go_quiet (fail)
    go_wp2
    refine wp_region_tail 9 (by kernel_rfl) (by kernel_rfl) ?_
    simp only [List.take_succ_cons, List.take_zero, List.drop_succ_cons, List.drop_zero]
    repeat (go_big_quiet_step (fail))
    refine wpQuiet_nil ?_
    refine copy_shift rfl (.tmp 36) (.tmp 41) 49 rfl 3 Try.underlying49 info3s base g 0 _ _ _ (by exact HO.out) (one_ints ts) _ rfl rfl (fun h => by omega) (fun w1 hown1 hM1 => ?_)
    simp only [Act.put, goInt, List.setIfInBounds_toArray, List.set_cons_succ, List.set_cons_zero]
    have ho1 := HH.out.ho.mods (w := w) (w' := w1) (S := fun k => k = g) ⟨hM1.os, hM1.tape, hM1.output, hM1.size, hM1.block⟩ (fun e => by have e : b = g := e; omega)
    have hc1' := ho1.cell
    have hz1 := ho1.frozen
    have hl1 := ho1.lt
    have hw : IntKind.i64.wrap ((1 : Int) - 1) = 0 := rfl
    go_wp2
    refine wp_region_tail 13 (by kernel_rfl) (by kernel_rfl) ?_
    simp only [List.take_succ_cons, List.take_zero, List.drop_succ_cons, List.drop_zero]
    repeat (go_big_quiet_step (fail))
    refine wpQuiet_nil ?_
    have hM0 : Mods (fun k => k = b ∨ k = g) w w1 := Mods.mono (w := w) (S := fun k => k = g) ⟨hM1.os, hM1.tape, hM1.output, hM1.size, hM1.block⟩ (fun k _ hk => .inr hk)
    go_upto_region 10 with (fail)
    refine cutW (fun W => Ob W b 67 [.int .i64 wd, .int .i64 ((0 : Int) + 1), .slice (some ⟨g, 0, none⟩) 0 1] ∧ W.ownsRow base 3 1 (.slice (some ⟨g, 0, none⟩) 0 1) 0 (List.drop 1 (List.map (Value.int IntKind.i64) ts)) ∧ Mods (fun k => k = b ∨ k = g) w W) ⟨ho1.drew.set 2 _, own_upd (w' := w1.drew.setCell ⟨b, 2, none⟩ (.slice (some ⟨g, 0, none⟩) 0 1)) hown1 ((Upd.refl b w1).drew.set 2 _) hbb, (hM0.drew).setCell ⟨b, 2, none⟩ (.inl (.inl rfl)) (.slice (some ⟨g, 0, none⟩) 0 1)⟩ ?_
    clear ho1 hown1 hM1 hM0 hcell hz hc1' hz1 hl1
    clear w1
    rintro w1 ⟨HO1, HO2, HM2⟩
    have hc1' := HO1.cell
    have hws := HM2.size
    have Hn3 : Hid (0 + 1 ≤ 1000000) := by show _ ≤ _; omega
    have Hbs : Hid (base ≤ w1.heap.size) := by show _ ≤ _; omega
    go_wp2_with (at_builtin; refine append1 rfl (.tmp 60) (.tmp 62) 49 rfl base 3 i0 _ 1 8 Try.underlying49 HI.out HZ0.out HZ1.out HZ2.out rfl (by decide) _ 0 _ rfl (HO2.alloc (.cells #[.int .i64 now] 3)) _ [.int .i64 now] rfl (Ob.new _ 3 [.int .i64 now]) rfl (one1 _) Hn3.out (by decide) (by simp; have := Hbs.out; omega) (fun v2 w2 hown2 hg2 hat2 => ?_); obtain ⟨A2, c2, rfl, -, -, -⟩ := own_shape hown2; have ho2 := (HO1.alloc _).grown hg2 (fun k hk => by have := own_block HO2 k hk; omega); have hc2 := ho2.cell; have hz2 := ho2.frozen; have hl2 := ho2.lt)
    go_ret
    have hM : Mods (fun k => k = b ∨ (Value.slice (some ⟨g, 0, none⟩) (0 + 1) 1).ownBlock = some k) w w2 := (((HM2.mono (fun k _ hk => hk.imp id (fun e => by rw [e]; rfl))).alloc _).grown hg2 (fun k hk => .inl (.inr hk)))
    refine ⟨rfl, .slice A2 (0 + 1) c2, ⟨ho2.set 2 _, ?_, HH.out.hm, HH.out.hw, ?_, ?_⟩, hM.setCell _ (.inl (.inl rfl)) _, ?_⟩
    · rw [HF.out, List.length_append, List.length_drop, HN.out, List.map_append, List.map_drop]
      exact own_upd hown2 (Upd.set (Upd.refl b w2) 2 _) hbb
    · rw [HF.out]
      intro t ht
      rcases List.mem_append.1 ht with ht | ht
      · exact HH.out.hb t (List.mem_of_mem_drop ht)
      · simp at ht; subst ht; exact ⟨hr0, hr9⟩
    · rw [HF.out, List.length_append, List.length_drop, HN.out]
      simp
    · rcases hat2 with h1 | h1
      · exact .inl h1
      · exact .inr ⟨_, h1, by simp; omega⟩

  · go_enter Try.func40, Try.ntmps40
    go_wp2_with (first | (go_at_call 61; refine (wIs_some w b _ (hcell 1) true hm).mono ?_; rintro e w' ⟨rfl, rfl⟩) | (go_at_call 62; refine (wRight_q w b _ _ 0 wd _ now _ ts HR2.out true HR.out).mono ?_; rintro e w' ⟨rfl, k, rfl⟩))
    go_quiet ((go_at_call 43; exact wCount_qq w b _ _ _ _ wd _ now _ ts HR2.out HR.out y HX.out))
    go_wp2
    go_quiet (fail)
    go_wp2
    refine wp_region_tail 9 (by kernel_rfl) (by kernel_rfl) ?_
    simp only [List.take_succ_cons, List.take_zero, List.drop_succ_cons, List.drop_zero]
    repeat (go_big_quiet_step (fail))
    refine wpQuiet_nil ?_
    refine copy_shift rfl (.tmp 36) (.tmp 41) 49 rfl 3 Try.underlying49 info3s base g q _ _ _ (by exact HO.out) (one_ints ts) _ rfl rfl (fun _ => rfl) (fun w1 hown1 hM1 => ?_)
    simp only [Act.put, goInt, List.setIfInBounds_toArray, List.set_cons_succ, List.set_cons_zero]
    have ho1 := HH.out.ho.mods (w := w) (w' := w1) (S := fun k => k = g) ⟨hM1.os, hM1.tape, hM1.output, hM1.size, hM1.block⟩ (fun e => by have e : b = g := e; omega)
    have hc1' := ho1.cell
    have hz1 := ho1.frozen
    have hl1 := ho1.lt
    have hw : IntKind.i64.wrap ((q : Int) + 1 - 1) = q := by rw [IntWalk.i64_in _ (by omega)]; omega
    have hw2 : IntKind.i64.wrap (q : Int) = q := IntWalk.i64_in _ (by omega)
    go_wp2
    refine wp_region_tail 13 (by kernel_rfl) (by kernel_rfl) ?_
    simp only [List.take_succ_cons, List.take_zero, List.drop_succ_cons, List.drop_zero]
    repeat (go_big_quiet_step (fail))
    refine wpQuiet_nil ?_
    have hM0 : Mods (fun k => k = b ∨ k = g) w w1 := Mods.mono (w := w) (S := fun k => k = g) ⟨hM1.os, hM1.tape, hM1.output, hM1.size, hM1.block⟩ (fun k _ hk => .inr hk)
    go_upto_region 10 with (fail)
    refine cutW (fun W => Ob W b 67 [.int .i64 wd, .int .i64 ((q : Int) + 1), .slice (some ⟨g, 0, none⟩) q c] ∧ W.ownsRow base 3 1 (.slice (some ⟨g, 0, none⟩) q c) q (List.drop 1 (List.map (Value.int IntKind.i64) ts)) ∧ Mods (fun k => k = b ∨ k = g) w W) ⟨ho1.drew.set 2 _, own_upd (w' := w1.drew.setCell ⟨b, 2, none⟩ (.slice (some ⟨g, 0, none⟩) q c)) hown1 ((Upd.refl b w1).drew.set 2 _) hbb, (hM0.drew).setCell ⟨b, 2, none⟩ (.inl (.inl rfl)) (.slice (some ⟨g, 0, none⟩) q c)⟩ ?_
    clear ho1 hown1 hM1 hM0 hcell hz hc1' hz1 hl1
    clear w1
    rintro w1 ⟨HO1, HO2, HM2⟩
    have hc1' := HO1.cell
    have hws := HM2.size
    have Hn3 : Hid (q + 1 ≤ 1000000) := by show _ ≤ _; omega
    have Hbs : Hid (base ≤ w1.heap.size) := by show _ ≤ _; omega
    go_wp2_with (at_builtin; refine append1 rfl (.tmp 60) (.tmp 62) 49 rfl base 3 i0 _ 1 8 Try.underlying49 HI.out HZ0.out HZ1.out HZ2.out rfl (by decide) _ q _ rfl (HO2.alloc (.cells #[.int .i64 now] 3)) _ [.int .i64 now] rfl (Ob.new _ 3 [.int .i64 now]) rfl (one1 _) Hn3.out (by decide) (by simp; have := Hbs.out; omega) (fun v2 w2 hown2 hg2 hat2 => ?_); obtain ⟨A2, c2, rfl, -, -, -⟩ := own_shape hown2; have ho2 := (HO1.alloc _).grown hg2 (fun k hk => by have := own_block HO2 k hk; omega); have hc2 := ho2.cell; have hz2 := ho2.frozen; have hl2 := ho2.lt)
    go_ret
    have hM : Mods (fun k => k = b ∨ (Value.slice (some ⟨g, 0, none⟩) (q + 1) c).ownBlock = some k) w w2 := (((HM2.mono (fun k _ hk => hk.imp id (fun e => by rw [e]; rfl))).alloc _).grown hg2 (fun k hk => .inl (.inr hk)))
    refine ⟨rfl, .slice A2 (q + 1) c2, ⟨ho2.set 2 _, ?_, HH.out.hm, HH.out.hw, ?_, ?_⟩, hM.setCell _ (.inl (.inl rfl)) _, ?_⟩
    · rw [HF.out, List.length_append, List.length_drop, HN.out, List.map_append, List.map_drop]
      exact own_upd hown2 (Upd.set (Upd.refl b w2) 2 _) hbb
    · rw [HF.out]
      intro t ht
      rcases List.mem_append.1 ht with ht | ht
      · exact HH.out.hb t (List.mem_of_mem_drop ht)
      · simp at ht; subst ht; exact ⟨hr0, hr9⟩
    · rw [HF.out, List.length_append, List.length_drop, HN.out]
      simp
    · rcases hat2 with h1 | h1
      · exact .inl h1
      · exact .inr ⟨_, h1, by simp; omega⟩


end Go.Proofs.Ytfmmaigaanikgaa
