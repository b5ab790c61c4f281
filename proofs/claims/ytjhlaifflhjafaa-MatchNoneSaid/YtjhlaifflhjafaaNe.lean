import Derived.Test.YtjhlaifflhjafaaNd
import Derived.Deep.RegionLaw
import Derived.WalkMore
import Derived.Deep.RegionHeld3
namespace Go.Proofs.Ytjhlaifflhjafaa
open Go.RowKit

set_option maxHeartbeats 3200000 in
set_option maxRecDepth 100000 in
theorem mo74_0 (w : World) (mb : Nat) (v0 v1 : Value) (S : Sd) (h : MbAt w mb v0 v1 S) (nm : ByteArray) (left p : Int) (h1 : 1 ≤ left) (h2 : left ≤ 1099511627776) (hx : ∀ x ∈ S.2, 1 ≤ x.left ∧ x.left ≤ 1099511627776) (hs : Srt 1 S.1) (hn : S.1.length + S.2.length < 1000) :
    Calls Try.prog 74 #[.pointer (some ⟨mb, 0, none⟩), .int .i64 1, .agg #[.string nm, .int .i64 left, .int .i64 p]] w fun e w' => ∃ v, e = .returned v ∧ w'.ownsRow (w.heap.size + 1) 108 4 v (meetM 0 S nm left p).1.length ((meetM 0 S nm left p).1.flatMap trC) ∧ MbTo w mb v0 v1 (meetM 0 S nm left p).2 w' := by
  obtain ⟨R, hR⟩ : ∃ R, meetL 1 nm p left S.2 [] = R := ⟨_, rfl⟩
  obtain ⟨M, hM⟩ : ∃ M, meetM 0 S nm left p = M := ⟨_, rfl⟩
  have hMM : M = (R.2.2, if 0 < R.1 then (insM 1 ⟨nm, R.1, p⟩ S.1, R.2.1) else (S.1, R.2.1)) := by rw [← hM, ← hR]; rfl
  rw [hM]
  obtain ⟨N, hN⟩ : ∃ N, S.2.length = N := ⟨_, rfl⟩
  have hN9 : N ≤ 1000 := by omega
  obtain ⟨i0, hi0, hz0, hz1, hz2⟩ := info_parts info108
  have HI := Lib.hid hi0
  have HZ0 := Lib.hid hz0
  have HZ1 := Lib.hid hz1
  have HZ2 := Lib.hid hz2
  have H := Lib.hid h
  have HR := Lib.hid hR
  have HMM := Lib.hid hMM
  have HX := Lib.hid hx
  have HS := Lib.hid hs
  have HN := Lib.hid hN
  have HN9 := Lib.hid hn
  have hwl := h.ho.lt
  have wr0 : IntKind.i64.wrap 0 = 0 := by rfl
  have wr1 : IntKind.i64.wrap 1 = 1 := by rfl
  clear hi0 hz0 hz1 hz2 h hR hM hMM hx hs hN hn
  go_enter Try.func74, Try.ntmps74
  go_upto_region 1 with (fail)
  refine cutW (fun W => MeAt w mb v0 v1 nm p W v0 v1 S left (.slice none 0 0) []) ⟨H.out.below Below.alloc_set, Ob.new w 122 [.string nm, .int .i64 left, .int .i64 p], own_nil _ _ _ _, Below.mods_ Below.alloc_set _, fun k hk => .inl hk, fun k hk => ⟨by have := (H.out.lt hk).2; omega, by intro e; cases e⟩⟩ ?_
  rintro W hK
  have HK := Lib.hid hK
  clear hK
  go_step3
  go_wp2_with fail
  go_step3
  go_wp2_with fail
  go_loopw [8, 9, 10] (fun v8 v9 v10 wr => ∃ left' l out u0 u1 Ao co, v8 = .slice Ao out.length co ∧ MeAt w mb v0 v1 nm p wr u0 u1 (S.1, l) left' (.slice Ao out.length co) out ∧ meetL 1 nm p left' l out = R ∧ 0 ≤ left' ∧ left' ≤ 1099511627776 ∧ (∀ x ∈ l, 1 ≤ x.left ∧ x.left ≤ 1099511627776) ∧ l.length ≤ N ∧ out.length + l.length ≤ N + 1 ∧ (0 < left' → out.length + l.length ≤ N)) (fun _ _ _ wr => (intOf ((wr.cell? ⟨w.heap.size, 1, none⟩).getD undef)).toNat)
  case atStart => exact ⟨left, S.2, [], v0, v1, none, 0, rfl, HK.out, HR.out, by omega, h2, HX.out, by rw [HN.out]; exact Nat.le_refl _, by rw [HN.out]; simp, fun _ => by rw [HN.out]; simp⟩
  case round =>
    clear HK
    obtain ⟨left', l, out, u0, u1, Ao, co, rfl, hK, hml, hl0, hl9, hxs, hln, hon, hon2⟩ := hrel
    have y0 : wr.cell? ⟨w.heap.size, 0, none⟩ = some (.string nm) := hK.ho.cell 0
    have y1 : wr.cell? ⟨w.heap.size, 1, none⟩ = some (.int .i64 left') := hK.ho.cell 1
    have y2 : wr.cell? ⟨w.heap.size, 2, none⟩ = some (.int .i64 p) := hK.ho.cell 2
    have c0 : wr.cell? ⟨mb, 1, none⟩ = some u1 := hK.hb.ho.cell 1
    have hrow : wr.ownsRow (mb + 1) 122 3 u1 l.length (l.flatMap moC) := hK.hb.h1
    by_cases hl : left' = 0
    · subst hl
      have HM2 : Hid (M = (out, (S.1, l))) := Lib.hid (by rw [HMM.out, ← hml, meetL_zero]; simp)
      have HK := Lib.hid hK
      clear hml hxs hK hrow c0 hl0 hl9 hln hon hon2
      go_wp2_with fail
      rw [Exit.noGoto_ret]
      go_ret
      rw [HM2.out]
      exact ⟨_, rfl, HK.out.hown, u0, u1, HK.out.hb, HK.out.hm, HK.out.hf⟩
    · have hlp : 0 < left' := by omega
      cases l with
      | nil =>
          obtain ⟨A, c, hu, -, -, -⟩ := own_shape hrow
          subst hu
          have HRe : Hid (R = (left', [], out)) := Lib.hid hml.symm
          have HLn : Hid (([] : List Mo).length ≤ S.2.length) := Lib.hid (by simp)
          have HK := Lib.hid hK
          clear hml hxs hK hrow hl hln hon hon2
          go_upto_region 5 with (fail)
          go_quiet (fail)
          go_upto_region 13 with (fail)
          refine cutW (fun V => MeAt w mb v0 v1 nm p V u0 (.slice A 0 c) (S.1, []) left' (.slice Ao out.length co) out) (HK.out.gen ((Mods.refl (fun _ => False) _).drewN _)) ?_
          clear y0 y1 y2 c0 HK
          rintro V hK
          have y0 : V.cell? ⟨w.heap.size, 0, none⟩ = some (.string nm) := hK.ho.cell 0
          have y1 : V.cell? ⟨w.heap.size, 1, none⟩ = some (.int .i64 left') := hK.ho.cell 1
          have y2 : V.cell? ⟨w.heap.size, 2, none⟩ = some (.int .i64 p) := hK.ho.cell 2
          obtain ⟨A2, c2, hu2, -, -, -⟩ := own_shape hK.hb.h0
          have hb2 := hK.hb
          rw [hu2] at hb2
          have h91 := mo91_0 V mb A2 _ c2 _ _ hb2 rfl (by have := HN9.out; have := HLn.out; simp only at this ⊢; omega) ⟨nm, left', p⟩ (mPos 1 p S.1) (idxP_le _ _) (fun j x hj hx => idxP_lt (fun x : Mo => btr 1 p x.price) (l := S.1) hj hx) (fun j x hj hx => mPos_ge HS.out hj hx)
          have H91 := Lib.hid h91
          rw [← hu2] at H91
          have HK := Lib.hid hK
          have HM2 : Hid (M = (out, (insM 1 ⟨nm, left', p⟩ S.1, []))) := Lib.hid (by rw [HMM.out, HRe.out]; simp only; rw [if_pos hlp])
          clear hb2 h91 hK hu2
          go_wp2_with (go_at_call 91; refine H91.out.mono ?_; rintro e w2 ⟨rfl, u0', u1', ha, hb, hc⟩)
          rw [Exit.noGoto_ret]
          go_ret
          have hK2 := HK.out.to ha hb hc
          rw [HM2.out]
          exact ⟨_, rfl, hK2.hown, u0', u1', hK2.hb, hK2.hm, hK2.hf⟩
      | cons x t =>
          obtain ⟨A, c, hu, -, -, -⟩ := own_shape hrow
          subst hu
          obtain ⟨g, cur, hA, -⟩ := own_ob hrow (by simp)
          subst hA
          obtain ⟨m, hm⟩ : ∃ m, t.length = m := ⟨_, rfl⟩
          simp only [List.length_cons, hm] at hK c0 hrow hln hon hon2
          have Hm := Lib.hid hm
          have HY1 := Lib.hid y1
          clear hrow y0 y1 y2 c0 hm
          have y0 : wr.cell? ⟨w.heap.size, 0, none⟩ = some (.string nm) := hK.ho.cell 0
          have y1 : wr.cell? ⟨w.heap.size, 1, none⟩ = some (.int .i64 left') := hK.ho.cell 1
          have y2 : wr.cell? ⟨w.heap.size, 2, none⟩ = some (.int .i64 p) := hK.ho.cell 2
          have y3 := hK.ho.frozen
          have y4 := hK.ho.lt
          have hrow : wr.ownsRow (mb + 1) 122 3 (.slice (some ⟨g, 0, none⟩) (m + 1) c) (m + 1) (moC x ++ t.flatMap moC) := by
            have := hK.hb.h1
            simp only [List.length_cons, List.flatMap_cons, Hm.out] at this
            exact this
          obtain ⟨d1, d2, d3, d4, x0, x1, x2, hset⟩ := own_hd hrow
          have c0 : wr.cell? ⟨mb, 1, none⟩ = some (.slice (some ⟨g, 0, none⟩) (m + 1) c) := hK.hb.ho.cell 1
          have z0 := hK.hb.ho.frozen
          have z1 := hK.hb.ho.lt
          have HK := Lib.hid hK
          have HSet := Lib.hid hset
          clear hset hrow hK
          have hz : ((m : Int) + 1 == 0) = false := by simp; omega
          have hxx := hxs x (List.mem_cons_self ..)
          have HXs : Hid (∀ y ∈ t, 1 ≤ y.left ∧ y.left ≤ 1099511627776) := Lib.hid (fun y hy => hxs y (List.mem_cons_of_mem _ hy))
          have HLn : Hid ((x :: t).length ≤ S.2.length) := Lib.hid (by rw [HN.out, List.length_cons, Hm.out]; exact hln)
          have HG : Hid (∀ V, Calls Try.prog 52 #[.int .i64 1, .int .i64 p, .int .i64 x.price] V fun e w' => e = .returned (.bool (goodB 1 p x.price)) ∧ w' = V) := Lib.hid (fun V => (mo52 V 1 p x.price).mono fun _ _ ⟨a, b⟩ => ⟨a, b.symm⟩)
          cases hg : goodB 1 p x.price with
          | false =>
          rw [hg] at HG
          have HRe : Hid (R = (left', x :: t, out)) := Lib.hid (by rw [← hml]; unfold meetL; rw [if_neg (by rw [hg]; simp)])
          clear hg hml hxs hl
          go_upto_region 5 with (fail)
          go_quiet ((go_at_call 52; exact Calls.quiet_of_same (HG.out _)))
          go_upto_region 13 with (fail)
          refine cutW (fun V => MeAt w mb v0 v1 nm p V u0 (.slice (some ⟨g, 0, none⟩) (m + 1) c) (S.1, x :: t) left' (.slice Ao out.length co) out) (HK.out.gen ((Mods.refl (fun _ => False) _).drewN _)) ?_
          clear y0 y1 y2 y3 y4 x0 x1 x2 c0 z0 z1 d1 d3 d4 HK
          rintro V hK
          have y0 : V.cell? ⟨w.heap.size, 0, none⟩ = some (.string nm) := hK.ho.cell 0
          have y1 : V.cell? ⟨w.heap.size, 1, none⟩ = some (.int .i64 left') := hK.ho.cell 1
          have y2 : V.cell? ⟨w.heap.size, 2, none⟩ = some (.int .i64 p) := hK.ho.cell 2
          obtain ⟨A2, c2, hu2, -, -, -⟩ := own_shape hK.hb.h0
          have hb2 := hK.hb
          rw [hu2] at hb2
          have h91 := mo91_0 V mb A2 _ c2 _ _ hb2 rfl (by have := HN9.out; have := HLn.out; simp only at this ⊢; omega) ⟨nm, left', p⟩ (mPos 1 p S.1) (idxP_le _ _) (fun j x hj hx => idxP_lt (fun x : Mo => btr 1 p x.price) (l := S.1) hj hx) (fun j x hj hx => mPos_ge HS.out hj hx)
          have H91 := Lib.hid h91
          rw [← hu2] at H91
          have HK := Lib.hid hK
          have HM2 : Hid (M = (out, (insM 1 ⟨nm, left', p⟩ S.1, x :: t))) := Lib.hid (by rw [HMM.out, HRe.out]; simp only; rw [if_pos hlp])
          clear hb2 h91 hK hu2
          go_wp2_with (go_at_call 91; refine H91.out.mono ?_; rintro e w2 ⟨rfl, u0', u1', ha, hb, hc⟩)
          rw [Exit.noGoto_ret]
          go_ret
          have hK2 := HK.out.to ha hb hc
          rw [HM2.out]
          exact ⟨_, rfl, hK2.hown, u0', u1', hK2.hb, hK2.hm, hK2.hf⟩
          | true =>
          rw [hg] at HG
          go_upto_region 5 with (fail)
          go_quiet ((go_at_call 52; exact Calls.quiet_of_same (HG.out _)))
          have Ho3 : Hid (out.length + 1 ≤ 1000000) := Lib.hid (by omega)
          have HML := Lib.hid hml
          have HGG := Lib.hid hg
          have hxx1 := hxx.1
          have hxx2 := hxx.2
          clear hml hg hxs hxx hl
          by_cases hlt : left' < x.left
          · have hwB : IntKind.i64.wrap (x.left - left') = x.left - left' := by rw [IntWalk.i64_in _ (by omega)]
            have hz2 : (x.left - left' == 0) = false := by simp; omega
            have hz3 : ¬ x.left - left' = 0 := by omega
            have hz4 : ¬ x.left < left' := by omega
            have HTR : Hid (∃ T : Tr, T = ⟨x.id, nm, left', x.price⟩) := Lib.hid ⟨_, rfl⟩
            go_upto_region 6 with (fail)
            refine cutW (fun V => MeAt w mb v0 v1 nm p V u0 (.slice (some ⟨g, 0, none⟩) (m + 1) c) (S.1, x :: t) left' (.slice Ao out.length co) out) (HK.out.gen ((Mods.refl (fun _ => False) _).drewN _)) ?_
            clear y0 y1 y2 y3 y4 x0 x1 x2 c0 z0 z1 d1 d3 d4 HK HSet
            rintro V hK
            have y0 : V.cell? ⟨w.heap.size, 0, none⟩ = some (.string nm) := hK.ho.cell 0
            have y1 : V.cell? ⟨w.heap.size, 1, none⟩ = some (.int .i64 left') := hK.ho.cell 1
            have y2 : V.cell? ⟨w.heap.size, 2, none⟩ = some (.int .i64 p) := hK.ho.cell 2
            have y3 := hK.ho.frozen
            have y4 := hK.ho.lt
            have hrow : V.ownsRow (mb + 1) 122 3 (.slice (some ⟨g, 0, none⟩) (m + 1) c) (m + 1) (moC x ++ t.flatMap moC) := by
              have := hK.hb.h1
              simp only [List.length_cons, List.flatMap_cons, Hm.out] at this
              exact this
            obtain ⟨d1, d2, d3, d4, x0, x1, x2, hset⟩ := own_hd hrow
            have c0 : V.cell? ⟨mb, 1, none⟩ = some (.slice (some ⟨g, 0, none⟩) (m + 1) c) := hK.hb.ho.cell 1
            have z0 := hK.hb.ho.frozen
            have z1 := hK.hb.ho.lt
            have HK := Lib.hid hK
            have HSet := Lib.hid hset
            clear hset hrow hK
            refine wp_region_tail 6 (by kernel_rfl) (by kernel_rfl) ?_
            simp only [List.take_succ_cons, List.take_zero, List.drop_succ_cons, List.drop_zero]
            repeat (go_big_quiet_step (fail))
            refine wpQuiet_nil ?_
            go_upto_region 7 with (fail)
            refine cutW (fun V => MeAt w mb v0 v1 nm p V u0 (.slice (some ⟨g, 0, none⟩) (m + 1) c) (S.1, x :: t) left' (.slice Ao out.length co) out) (HK.out.gen (Mods.refl (fun _ => False) _).drew) ?_
            clear y0 y1 y2 y3 y4 x0 x1 x2 c0 z0 z1 d1 d3 d4 HK HSet V
            rintro V hK
            have y0 : V.cell? ⟨w.heap.size, 0, none⟩ = some (.string nm) := hK.ho.cell 0
            have y1 : V.cell? ⟨w.heap.size, 1, none⟩ = some (.int .i64 left') := hK.ho.cell 1
            have y2 : V.cell? ⟨w.heap.size, 2, none⟩ = some (.int .i64 p) := hK.ho.cell 2
            have y3 := hK.ho.frozen
            have y4 := hK.ho.lt
            have hrow : V.ownsRow (mb + 1) 122 3 (.slice (some ⟨g, 0, none⟩) (m + 1) c) (m + 1) (moC x ++ t.flatMap moC) := by
              have := hK.hb.h1
              simp only [List.length_cons, List.flatMap_cons, Hm.out] at this
              exact this
            obtain ⟨d1, d2, d3, d4, x0, x1, x2, hset⟩ := own_hd hrow
            have c0 : V.cell? ⟨mb, 1, none⟩ = some (.slice (some ⟨g, 0, none⟩) (m + 1) c) := hK.hb.ho.cell 1
            have z0 := hK.hb.ho.frozen
            have z1 := hK.hb.ho.lt
            have HK := Lib.hid hK
            have HSet := Lib.hid hset
            clear hset hrow hK
            have Hnb : Hid (∀ k, (Value.slice Ao out.length co).ownBlock = some k → g ≠ k ∧ w.heap.size ≠ k) := Lib.hid (fun k hk => ⟨fun e => (HK.out.hx g (.inr (.inr rfl))).2 (by rw [e]; exact hk), fun e => by have := own_block HK.out.hown k hk; omega⟩)
            have Hsz : Hid (∀ o, w.heap.size + 1 ≤ (V.drew.alloc o).heap.size) := Lib.hid (fun o => by simp; omega)
            go_region_held3 (fun w' => w'.cell? ⟨g, 0, none⟩ = some (.string x.id) ∧ w'.cell? ⟨g, 2, none⟩ = some (.int .i64 x.price) ∧ w'.cell? ⟨w.heap.size, 0, none⟩ = some (.string nm))
              (first | exact ⟨x0, x2, y0⟩ | exact ⟨g1, g2, g3⟩ | exact ⟨cell_al _ x0, cell_al _ x2, cell_al _ y0⟩ | go_keep)
              (first
                | (refine step_append1 rfl (.tmp 43) (.tmp 56) 62 rfl (w.heap.size + 1) 108 i0 _ 4 48 Try.underlying62 HI.out HZ0.out HZ1.out HZ2.out rfl (by decide) (.slice Ao out.length co) out.length _ rfl (own_mods HK.out.hown (((Mods.refl (fun _ => False) V).drew).alloc (.cells #[.string x.id, .string nm, .int .i64 left', .int .i64 x.price] 108)) (fun _ _ => id)) _ [.string x.id, .string nm, .int .i64 left', .int .i64 x.price] rfl ?_ rfl ?_ Ho3.out ?_ (Hsz.out _) (fun vo2 w2 hown2 hg2 hat2 => ?_)
                   · exact Ob.new _ 108 [.string x.id, .string nm, .int .i64 left', .int .i64 x.price]
                   · simp [Value.oneCell']
                   · decide
                   have g1 := cell_gr hg2 (cell_al _ x0) (fun k hk => (Hnb.out k hk).1)
                   have g2 := cell_gr hg2 (cell_al _ x2) (fun k hk => (Hnb.out k hk).1)
                   have g3 := cell_gr hg2 (cell_al _ y0) (fun k hk => (Hnb.out k hk).2)))
            obtain ⟨A2, c2, rfl, -, -, -⟩ := own_shape hown2
            go_upto_region 8 with (fail)
            have hK2 : MeAt w mb v0 v1 nm p w2 u0 (.slice (some ⟨g, 0, none⟩) (m + 1) c) (S.1, x :: t) left' (.slice A2 (out.length + 1) c2) (out ++ [⟨x.id, nm, left', x.price⟩]) := HK.out.app ((((Mods.refl _ V).drew).alloc _).grown hg2 (fun k hk => .inl hk)) (by
              rw [List.length_append, List.flatMap_append]
              simpa [trC] using hown2) (fun k hk => by
              rcases hat2 with h6 | h6
              · left; rw [h6] at hk; exact hk
              · right
                rw [h6] at hk
                injection hk with hk
                simp at hk
                omega)
            refine cutW (fun V => MeAt w mb v0 v1 nm p V u0 (.slice (some ⟨g, 0, none⟩) (m + 1) c) (S.1, x :: t) left' (.slice A2 (out.length + 1) c2) (out ++ [⟨x.id, nm, left', x.price⟩])) hK2 ?_
            clear y0 y1 y2 y3 y4 x0 x1 x2 c0 z0 z1 d1 d3 d4 HK HSet hown2 hg2 hat2 hK2 g1 g2 g3 Hnb Hsz
            rintro V hK
            have y0 : V.cell? ⟨w.heap.size, 0, none⟩ = some (.string nm) := hK.ho.cell 0
            have y1 : V.cell? ⟨w.heap.size, 1, none⟩ = some (.int .i64 left') := hK.ho.cell 1
            have y2 : V.cell? ⟨w.heap.size, 2, none⟩ = some (.int .i64 p) := hK.ho.cell 2
            have y3 := hK.ho.frozen
            have y4 := hK.ho.lt
            have hrow : V.ownsRow (mb + 1) 122 3 (.slice (some ⟨g, 0, none⟩) (m + 1) c) (m + 1) (moC x ++ t.flatMap moC) := by
              have := hK.hb.h1
              simp only [List.length_cons, List.flatMap_cons, Hm.out] at this
              exact this
            obtain ⟨d1, d2, d3, d4, x0, x1, x2, hset⟩ := own_hd hrow
            have c0 : V.cell? ⟨mb, 1, none⟩ = some (.slice (some ⟨g, 0, none⟩) (m + 1) c) := hK.hb.ho.cell 1
            have z0 := hK.hb.ho.frozen
            have z1 := hK.hb.ho.lt
            have HK := Lib.hid hK
            have HSet := Lib.hid hset
            clear hset hrow hK
            go_upto_region 9 with (fail)
            refine cutW (fun V => MeAt w mb v0 v1 nm p V u0 (.slice (some ⟨g, 0, none⟩) (m + 1) c) (S.1, x :: t) 0 (.slice A2 (out.length + 1) c2) (out ++ [⟨x.id, nm, left', x.price⟩])) (HK.out.setL 0) ?_
            clear y0 y1 y2 y3 y4 x0 x1 x2 c0 z0 z1 d1 d3 d4 HK HSet V
            rintro V hK
            have y0 : V.cell? ⟨w.heap.size, 0, none⟩ = some (.string nm) := hK.ho.cell 0
            have y1 : V.cell? ⟨w.heap.size, 1, none⟩ = some (.int .i64 0) := hK.ho.cell 1
            have y2 : V.cell? ⟨w.heap.size, 2, none⟩ = some (.int .i64 p) := hK.ho.cell 2
            have y3 := hK.ho.frozen
            have y4 := hK.ho.lt
            have hrow : V.ownsRow (mb + 1) 122 3 (.slice (some ⟨g, 0, none⟩) (m + 1) c) (m + 1) (moC x ++ t.flatMap moC) := by
              have := hK.hb.h1
              simp only [List.length_cons, List.flatMap_cons, Hm.out] at this
              exact this
            obtain ⟨d1, d2, d3, d4, x0, x1, x2, hset⟩ := own_hd hrow
            have c0 : V.cell? ⟨mb, 1, none⟩ = some (.slice (some ⟨g, 0, none⟩) (m + 1) c) := hK.hb.ho.cell 1
            have z0 := hK.hb.ho.frozen
            have z1 := hK.hb.ho.lt
            have HK := Lib.hid hK
            have HSet := Lib.hid hset
            clear hset hrow hK
            go_upto_region 10 with (fail)
            have hK2 : MeAt w mb v0 v1 nm p (V.setCell ⟨g, 1, none⟩ (.int .i64 (x.left - left'))) u0 (.slice (some ⟨g, 0, none⟩) (m + 1) c) (S.1, { x with left := (x.left - left') } :: t) 0 (.slice A2 (out.length + 1) c2) (out ++ [⟨x.id, nm, left', x.price⟩]) := by
              obtain ⟨q1, q2⟩ := HK.out.hb.cell1 (g := g) (i := 1) (v := .int .i64 (x.left - left')) (l := { x with left := (x.left - left') } :: t) rfl (by simp) (by
                have := HSet.out (x.left - left')
                simp only [List.length_cons, List.flatMap_cons, Hm.out]
                exact this)
              exact HK.out.to q1 q2 (fun k hk => .inl hk)
            refine cutW (fun V => MeAt w mb v0 v1 nm p V u0 (.slice (some ⟨g, 0, none⟩) (m + 1) c) (S.1, { x with left := (x.left - left') } :: t) 0 (.slice A2 (out.length + 1) c2) (out ++ [⟨x.id, nm, left', x.price⟩])) hK2 ?_
            clear y0 y1 y2 y3 y4 x0 x1 x2 c0 z0 z1 d1 d3 d4 HK HSet hK2 V
            rintro V hK
            have y0 : V.cell? ⟨w.heap.size, 0, none⟩ = some (.string nm) := hK.ho.cell 0
            have y1 : V.cell? ⟨w.heap.size, 1, none⟩ = some (.int .i64 0) := hK.ho.cell 1
            have y2 : V.cell? ⟨w.heap.size, 2, none⟩ = some (.int .i64 p) := hK.ho.cell 2
            have y3 := hK.ho.frozen
            have y4 := hK.ho.lt
            have hrow : V.ownsRow (mb + 1) 122 3 (.slice (some ⟨g, 0, none⟩) (m + 1) c) (m + 1) (moC { x with left := (x.left - left') } ++ t.flatMap moC) := by
              have := hK.hb.h1
              simp only [List.length_cons, List.flatMap_cons, Hm.out] at this
              exact this
            obtain ⟨d1, d2, d3, d4, x0, x1, x2, hset⟩ := own_hd hrow
            have c0 : V.cell? ⟨mb, 1, none⟩ = some (.slice (some ⟨g, 0, none⟩) (m + 1) c) := hK.hb.ho.cell 1
            have z0 := hK.hb.ho.frozen
            have z1 := hK.hb.ho.lt
            have HK := Lib.hid hK
            have HSet := Lib.hid hset
            clear hset hrow hK
            go_wp2_with fail
            go_roundw
            case rel => exact ⟨0, { x with left := x.left - left' } :: t, out ++ [⟨x.id, nm, left', x.price⟩], _, _, A2, c2, by simp, by rw [List.length_append]; exact HK.out, by rw [meetL_zero, ← HML.out]; unfold meetL; rw [if_pos ⟨hlp, HGG.out⟩, if_pos hlt], by omega, by omega, fun y hy => by
              rcases List.mem_cons.1 hy with rfl | hy
              · simp only; omega
              · exact HXs.out y hy, by rw [List.length_cons, Hm.out]; exact hln, by simp only [List.length_append, List.length_cons, List.length_nil, Hm.out]; omega, fun h => by omega⟩
            case measure =>
              simp only [HY1.out, y1, Option.getD_some, intOf]
              omega
          have hmn : (if x.left < left' then x.left else left') = x.left := by split <;> omega
          have hwA : IntKind.i64.wrap (left' - x.left) = left' - x.left := by rw [IntWalk.i64_in _ (by omega)]
          have HTR : Hid (∃ T : Tr, T = ⟨x.id, nm, x.left, x.price⟩) := Lib.hid ⟨_, rfl⟩
          go_upto_region 6 with (fail)
          refine cutW (fun V => MeAt w mb v0 v1 nm p V u0 (.slice (some ⟨g, 0, none⟩) (m + 1) c) (S.1, x :: t) left' (.slice Ao out.length co) out) (HK.out.gen ((Mods.refl (fun _ => False) _).drewN _)) ?_
          clear y0 y1 y2 y3 y4 x0 x1 x2 c0 z0 z1 d1 d3 d4 HK HSet
          rintro V hK
          have y0 : V.cell? ⟨w.heap.size, 0, none⟩ = some (.string nm) := hK.ho.cell 0
          have y1 : V.cell? ⟨w.heap.size, 1, none⟩ = some (.int .i64 left') := hK.ho.cell 1
          have y2 : V.cell? ⟨w.heap.size, 2, none⟩ = some (.int .i64 p) := hK.ho.cell 2
          have y3 := hK.ho.frozen
          have y4 := hK.ho.lt
          have hrow : V.ownsRow (mb + 1) 122 3 (.slice (some ⟨g, 0, none⟩) (m + 1) c) (m + 1) (moC x ++ t.flatMap moC) := by
            have := hK.hb.h1
            simp only [List.length_cons, List.flatMap_cons, Hm.out] at this
            exact this
          obtain ⟨d1, d2, d3, d4, x0, x1, x2, hset⟩ := own_hd hrow
          have c0 : V.cell? ⟨mb, 1, none⟩ = some (.slice (some ⟨g, 0, none⟩) (m + 1) c) := hK.hb.ho.cell 1
          have z0 := hK.hb.ho.frozen
          have z1 := hK.hb.ho.lt
          have HK := Lib.hid hK
          have HSet := Lib.hid hset
          clear hset hrow hK
          refine wp_region_tail 6 (by kernel_rfl) (by kernel_rfl) ?_
          simp only [List.take_succ_cons, List.take_zero, List.drop_succ_cons, List.drop_zero]
          repeat (go_big_quiet_step (fail))
          refine wpQuiet_nil ?_
          go_upto_region 7 with (fail)
          refine cutW (fun V => MeAt w mb v0 v1 nm p V u0 (.slice (some ⟨g, 0, none⟩) (m + 1) c) (S.1, x :: t) left' (.slice Ao out.length co) out) (HK.out.gen (Mods.refl (fun _ => False) _).drew) ?_
          clear y0 y1 y2 y3 y4 x0 x1 x2 c0 z0 z1 d1 d3 d4 HK HSet V
          rintro V hK
          have y0 : V.cell? ⟨w.heap.size, 0, none⟩ = some (.string nm) := hK.ho.cell 0
          have y1 : V.cell? ⟨w.heap.size, 1, none⟩ = some (.int .i64 left') := hK.ho.cell 1
          have y2 : V.cell? ⟨w.heap.size, 2, none⟩ = some (.int .i64 p) := hK.ho.cell 2
          have y3 := hK.ho.frozen
          have y4 := hK.ho.lt
          have hrow : V.ownsRow (mb + 1) 122 3 (.slice (some ⟨g, 0, none⟩) (m + 1) c) (m + 1) (moC x ++ t.flatMap moC) := by
            have := hK.hb.h1
            simp only [List.length_cons, List.flatMap_cons, Hm.out] at this
            exact this
          obtain ⟨d1, d2, d3, d4, x0, x1, x2, hset⟩ := own_hd hrow
          have c0 : V.cell? ⟨mb, 1, none⟩ = some (.slice (some ⟨g, 0, none⟩) (m + 1) c) := hK.hb.ho.cell 1
          have z0 := hK.hb.ho.frozen
          have z1 := hK.hb.ho.lt
          have HK := Lib.hid hK
          have HSet := Lib.hid hset
          clear hset hrow hK
          have Hnb : Hid (∀ k, (Value.slice Ao out.length co).ownBlock = some k → g ≠ k ∧ w.heap.size ≠ k) := Lib.hid (fun k hk => ⟨fun e => (HK.out.hx g (.inr (.inr rfl))).2 (by rw [e]; exact hk), fun e => by have := own_block HK.out.hown k hk; omega⟩)
          have Hsz : Hid (∀ o, w.heap.size + 1 ≤ (V.drew.alloc o).heap.size) := Lib.hid (fun o => by simp; omega)
          go_region_held3 (fun w' => w'.cell? ⟨g, 0, none⟩ = some (.string x.id) ∧ w'.cell? ⟨g, 2, none⟩ = some (.int .i64 x.price) ∧ w'.cell? ⟨w.heap.size, 0, none⟩ = some (.string nm))
            (first | exact ⟨x0, x2, y0⟩ | exact ⟨g1, g2, g3⟩ | exact ⟨cell_al _ x0, cell_al _ x2, cell_al _ y0⟩ | go_keep)
            (first
              | (refine step_append1 rfl (.tmp 43) (.tmp 56) 62 rfl (w.heap.size + 1) 108 i0 _ 4 48 Try.underlying62 HI.out HZ0.out HZ1.out HZ2.out rfl (by decide) (.slice Ao out.length co) out.length _ rfl (own_mods HK.out.hown (((Mods.refl (fun _ => False) V).drew).alloc (.cells #[.string x.id, .string nm, .int .i64 x.left, .int .i64 x.price] 108)) (fun _ _ => id)) _ [.string x.id, .string nm, .int .i64 x.left, .int .i64 x.price] rfl ?_ rfl ?_ Ho3.out ?_ (Hsz.out _) (fun vo2 w2 hown2 hg2 hat2 => ?_)
                 · exact Ob.new _ 108 [.string x.id, .string nm, .int .i64 x.left, .int .i64 x.price]
                 · simp [Value.oneCell']
                 · decide
                 have g1 := cell_gr hg2 (cell_al _ x0) (fun k hk => (Hnb.out k hk).1)
                 have g2 := cell_gr hg2 (cell_al _ x2) (fun k hk => (Hnb.out k hk).1)
                 have g3 := cell_gr hg2 (cell_al _ y0) (fun k hk => (Hnb.out k hk).2)))
          obtain ⟨A2, c2, rfl, -, -, -⟩ := own_shape hown2
          go_upto_region 8 with (fail)
          have hK2 : MeAt w mb v0 v1 nm p w2 u0 (.slice (some ⟨g, 0, none⟩) (m + 1) c) (S.1, x :: t) left' (.slice A2 (out.length + 1) c2) (out ++ [⟨x.id, nm, x.left, x.price⟩]) := HK.out.app ((((Mods.refl _ V).drew).alloc _).grown hg2 (fun k hk => .inl hk)) (by
            rw [List.length_append, List.flatMap_append]
            simpa [trC] using hown2) (fun k hk => by
            rcases hat2 with h6 | h6
            · left; rw [h6] at hk; exact hk
            · right
              rw [h6] at hk
              injection hk with hk
              simp at hk
              omega)
          refine cutW (fun V => MeAt w mb v0 v1 nm p V u0 (.slice (some ⟨g, 0, none⟩) (m + 1) c) (S.1, x :: t) left' (.slice A2 (out.length + 1) c2) (out ++ [⟨x.id, nm, x.left, x.price⟩])) hK2 ?_
          clear y0 y1 y2 y3 y4 x0 x1 x2 c0 z0 z1 d1 d3 d4 HK HSet hown2 hg2 hat2 hK2 g1 g2 g3 Hnb Hsz
          rintro V hK
          have y0 : V.cell? ⟨w.heap.size, 0, none⟩ = some (.string nm) := hK.ho.cell 0
          have y1 : V.cell? ⟨w.heap.size, 1, none⟩ = some (.int .i64 left') := hK.ho.cell 1
          have y2 : V.cell? ⟨w.heap.size, 2, none⟩ = some (.int .i64 p) := hK.ho.cell 2
          have y3 := hK.ho.frozen
          have y4 := hK.ho.lt
          have hrow : V.ownsRow (mb + 1) 122 3 (.slice (some ⟨g, 0, none⟩) (m + 1) c) (m + 1) (moC x ++ t.flatMap moC) := by
            have := hK.hb.h1
            simp only [List.length_cons, List.flatMap_cons, Hm.out] at this
            exact this
          obtain ⟨d1, d2, d3, d4, x0, x1, x2, hset⟩ := own_hd hrow
          have c0 : V.cell? ⟨mb, 1, none⟩ = some (.slice (some ⟨g, 0, none⟩) (m + 1) c) := hK.hb.ho.cell 1
          have z0 := hK.hb.ho.frozen
          have z1 := hK.hb.ho.lt
          have HK := Lib.hid hK
          have HSet := Lib.hid hset
          clear hset hrow hK
          go_upto_region 9 with (fail)
          refine cutW (fun V => MeAt w mb v0 v1 nm p V u0 (.slice (some ⟨g, 0, none⟩) (m + 1) c) (S.1, x :: t) (left' - x.left) (.slice A2 (out.length + 1) c2) (out ++ [⟨x.id, nm, x.left, x.price⟩])) (HK.out.setL (left' - x.left)) ?_
          clear y0 y1 y2 y3 y4 x0 x1 x2 c0 z0 z1 d1 d3 d4 HK HSet V
          rintro V hK
          have y0 : V.cell? ⟨w.heap.size, 0, none⟩ = some (.string nm) := hK.ho.cell 0
          have y1 : V.cell? ⟨w.heap.size, 1, none⟩ = some (.int .i64 (left' - x.left)) := hK.ho.cell 1
          have y2 : V.cell? ⟨w.heap.size, 2, none⟩ = some (.int .i64 p) := hK.ho.cell 2
          have y3 := hK.ho.frozen
          have y4 := hK.ho.lt
          have hrow : V.ownsRow (mb + 1) 122 3 (.slice (some ⟨g, 0, none⟩) (m + 1) c) (m + 1) (moC x ++ t.flatMap moC) := by
            have := hK.hb.h1
            simp only [List.length_cons, List.flatMap_cons, Hm.out] at this
            exact this
          obtain ⟨d1, d2, d3, d4, x0, x1, x2, hset⟩ := own_hd hrow
          have c0 : V.cell? ⟨mb, 1, none⟩ = some (.slice (some ⟨g, 0, none⟩) (m + 1) c) := hK.hb.ho.cell 1
          have z0 := hK.hb.ho.frozen
          have z1 := hK.hb.ho.lt
          have HK := Lib.hid hK
          have HSet := Lib.hid hset
          clear hset hrow hK
          go_upto_region 10 with (fail)
          have hK2 : MeAt w mb v0 v1 nm p (V.setCell ⟨g, 1, none⟩ (.int .i64 0)) u0 (.slice (some ⟨g, 0, none⟩) (m + 1) c) (S.1, { x with left := 0 } :: t) (left' - x.left) (.slice A2 (out.length + 1) c2) (out ++ [⟨x.id, nm, x.left, x.price⟩]) := by
            obtain ⟨q1, q2⟩ := HK.out.hb.cell1 (g := g) (i := 1) (v := .int .i64 0) (l := { x with left := 0 } :: t) rfl (by simp) (by
              have := HSet.out 0
              simp only [List.length_cons, List.flatMap_cons, Hm.out]
              exact this)
            exact HK.out.to q1 q2 (fun k hk => .inl hk)
          refine cutW (fun V => MeAt w mb v0 v1 nm p V u0 (.slice (some ⟨g, 0, none⟩) (m + 1) c) (S.1, { x with left := 0 } :: t) (left' - x.left) (.slice A2 (out.length + 1) c2) (out ++ [⟨x.id, nm, x.left, x.price⟩])) hK2 ?_
          clear y0 y1 y2 y3 y4 x0 x1 x2 c0 z0 z1 d1 d3 d4 HK HSet hK2 V
          rintro V hK
          have y0 : V.cell? ⟨w.heap.size, 0, none⟩ = some (.string nm) := hK.ho.cell 0
          have y1 : V.cell? ⟨w.heap.size, 1, none⟩ = some (.int .i64 (left' - x.left)) := hK.ho.cell 1
          have y2 : V.cell? ⟨w.heap.size, 2, none⟩ = some (.int .i64 p) := hK.ho.cell 2
          have y3 := hK.ho.frozen
          have y4 := hK.ho.lt
          have hrow : V.ownsRow (mb + 1) 122 3 (.slice (some ⟨g, 0, none⟩) (m + 1) c) (m + 1) (moC { x with left := 0 } ++ t.flatMap moC) := by
            have := hK.hb.h1
            simp only [List.length_cons, List.flatMap_cons, Hm.out] at this
            exact this
          obtain ⟨d1, d2, d3, d4, x0, x1, x2, hset⟩ := own_hd hrow
          have c0 : V.cell? ⟨mb, 1, none⟩ = some (.slice (some ⟨g, 0, none⟩) (m + 1) c) := hK.hb.ho.cell 1
          have z0 := hK.hb.ho.frozen
          have z1 := hK.hb.ho.lt
          have HK := Lib.hid hK
          have HSet := Lib.hid hset
          clear hset hrow hK
          have hdel : ∀ V', V'.ownsRow (mb + 1) 122 3 (.slice (some ⟨g, 0, none⟩) (m + 1) c) (m + 1) (moC { x with left := 0 } ++ t.flatMap moC) → Calls Try.prog 81 #[.slice (some ⟨g, 0, none⟩) (m + 1) c, .int .i64 0, .int .i64 1] V' fun e w' => DelP81 V' (mb + 1) (.slice (some ⟨g, 0, none⟩) (m + 1) c) (m + 1) 0 (moC { x with left := 0 } ++ t.flatMap moC) e w' := fun V' ho => delete81 V' (mb + 1) _ (m + 1) 0 _ ho (by omega) (by
            intro u hu
            rcases List.mem_append.1 hu with hu | hu
            · exact moC_one _ u hu
            · exact mo_one t u hu) (by omega)
          have HDel := Lib.hid hdel
          have hrow : V.ownsRow (mb + 1) 122 3 (.slice (some ⟨g, 0, none⟩) (m + 1) c) (m + 1) (moC { x with left := 0 } ++ t.flatMap moC) := by
            have := HK.out.hb.h1
            simp only [List.length_cons, List.flatMap_cons, Hm.out] at this
            exact this
          have HRow := Lib.hid hrow
          have HOb := Lib.hid (own_block hrow)
          clear hdel hrow
          go_upto_region 11 with (fail)
          go_region_law
            (first
              | (go_simp
                 go_at_call 81
                 refine (HDel.out _ (own_mods HRow.out (Mods.refl (fun _ => False) V).drew (fun _ _ => id))).mono ?_
                 rintro e w6 ⟨v6, rfl, hown6, hg6, hat6⟩
                 obtain ⟨A6, c6, hv6, -, -, -⟩ := own_shape hown6
                 rw [Nat.add_sub_cancel] at hv6
                 subst hv6
                 have ho6 := (HK.out.hb.ho.drew).grown hg6 (fun k hk => by have := HOb.out k hk; omega)
                 have hc6 := ho6.cell
                 have hz6 := ho6.frozen
                 have hl6 := ho6.lt))
          have hput := HK.out.hb.put 1 (by decide) (.slice A6 m c6) t (((Mods.refl (fun k => (if (1 : Nat) = 0 then (u0 : Value) else (Value.slice (some ⟨g, 0, none⟩) (m + 1) c)).ownBlock = some k) V).drew).grown hg6 (fun k hk => .inl hk)) (by
            rw [Hm.out]
            have e : delV 3 0 (moC { x with left := 0 } ++ t.flatMap moC) = t.flatMap moC := by simp [delV, moC]
            rw [e] at hown6
            exact hown6) (fun k hk => by
            left; rw [hat6] at hk; exact hk) (by simp [Sd.at]; omega) (by have := HN9.out; have := HN.out; simp only [List.length_cons, Hm.out]; omega)
          obtain ⟨u0', u1', q1, q2, q3⟩ := hput
          have hK3 := HK.out.to q1 q2 q3
          have y1' := hK3.ho.cell 1
          go_wp2_with fail
          go_roundw
          case rel => exact ⟨left' - x.left, t, out ++ [⟨x.id, nm, x.left, x.price⟩], _, _, A2, c2, by simp, by rw [List.length_append]; exact hK3, by rw [← HML.out]; conv => rhs; unfold meetL; rw [if_pos ⟨hlp, HGG.out⟩, if_neg hlt], by omega, by omega, HXs.out, by rw [Hm.out]; omega, by simp only [List.length_append, List.length_cons, List.length_nil, Hm.out]; omega, fun h => by simp only [List.length_append, List.length_cons, List.length_nil, Hm.out]; have := hon2 hlp; omega⟩
          case measure =>
            simp only [HY1.out, y1', Option.getD_some, intOf]
            simp [intOf]
            omega

set_option maxHeartbeats 3200000 in
set_option maxRecDepth 100000 in
theorem mo74_1 (w : World) (mb : Nat) (v0 v1 : Value) (S : Sd) (h : MbAt w mb v0 v1 S) (nm : ByteArray) (left p : Int) (h1 : 1 ≤ left) (h2 : left ≤ 1099511627776) (hx : ∀ x ∈ S.1, 1 ≤ x.left ∧ x.left ≤ 1099511627776) (hs : Srt 2 S.2) (hn : S.1.length + S.2.length < 1000) :
    Calls Try.prog 74 #[.pointer (some ⟨mb, 0, none⟩), .int .i64 2, .agg #[.string nm, .int .i64 left, .int .i64 p]] w fun e w' => ∃ v, e = .returned v ∧ w'.ownsRow (w.heap.size + 1) 108 4 v (meetM 1 S nm left p).1.length ((meetM 1 S nm left p).1.flatMap trC) ∧ MbTo w mb v0 v1 (meetM 1 S nm left p).2 w' := by
  obtain ⟨R, hR⟩ : ∃ R, meetL 2 nm p left S.1 [] = R := ⟨_, rfl⟩
  obtain ⟨M, hM⟩ : ∃ M, meetM 1 S nm left p = M := ⟨_, rfl⟩
  have hMM : M = (R.2.2, if 0 < R.1 then (R.2.1, insM 2 ⟨nm, R.1, p⟩ S.2) else (R.2.1, S.2)) := by rw [← hM, ← hR]; rfl
  rw [hM]
  obtain ⟨N, hN⟩ : ∃ N, S.1.length = N := ⟨_, rfl⟩
  have hN9 : N ≤ 1000 := by omega
  obtain ⟨i0, hi0, hz0, hz1, hz2⟩ := info_parts info108
  have HI := Lib.hid hi0
  have HZ0 := Lib.hid hz0
  have HZ1 := Lib.hid hz1
  have HZ2 := Lib.hid hz2
  have H := Lib.hid h
  have HR := Lib.hid hR
  have HMM := Lib.hid hMM
  have HX := Lib.hid hx
  have HS := Lib.hid hs
  have HN := Lib.hid hN
  have HN9 := Lib.hid hn
  have hwl := h.ho.lt
  have wr0 : IntKind.i64.wrap 0 = 0 := by rfl
  have wr1 : IntKind.i64.wrap 1 = 1 := by rfl
  clear hi0 hz0 hz1 hz2 h hR hM hMM hx hs hN hn
  go_enter Try.func74, Try.ntmps74
  go_upto_region 1 with (fail)
  refine cutW (fun W => MeAt w mb v0 v1 nm p W v0 v1 S left (.slice none 0 0) []) ⟨H.out.below Below.alloc_set, Ob.new w 122 [.string nm, .int .i64 left, .int .i64 p], own_nil _ _ _ _, Below.mods_ Below.alloc_set _, fun k hk => .inl hk, fun k hk => ⟨by have := (H.out.lt hk).2; omega, by intro e; cases e⟩⟩ ?_
  rintro W hK
  have HK := Lib.hid hK
  clear hK
  go_step3
  go_wp2_with fail
  go_step3
  go_wp2_with fail
  go_loopw [8, 9, 10] (fun v8 v9 v10 wr => ∃ left' l out u0 u1 Ao co, v8 = .slice Ao out.length co ∧ MeAt w mb v0 v1 nm p wr u0 u1 (l, S.2) left' (.slice Ao out.length co) out ∧ meetL 2 nm p left' l out = R ∧ 0 ≤ left' ∧ left' ≤ 1099511627776 ∧ (∀ x ∈ l, 1 ≤ x.left ∧ x.left ≤ 1099511627776) ∧ l.length ≤ N ∧ out.length + l.length ≤ N + 1 ∧ (0 < left' → out.length + l.length ≤ N)) (fun _ _ _ wr => (intOf ((wr.cell? ⟨w.heap.size, 1, none⟩).getD undef)).toNat)
  case atStart => exact ⟨left, S.1, [], v0, v1, none, 0, rfl, HK.out, HR.out, by omega, h2, HX.out, by rw [HN.out]; exact Nat.le_refl _, by rw [HN.out]; simp, fun _ => by rw [HN.out]; simp⟩
  case round =>
    clear HK
    obtain ⟨left', l, out, u0, u1, Ao, co, rfl, hK, hml, hl0, hl9, hxs, hln, hon, hon2⟩ := hrel
    have y0 : wr.cell? ⟨w.heap.size, 0, none⟩ = some (.string nm) := hK.ho.cell 0
    have y1 : wr.cell? ⟨w.heap.size, 1, none⟩ = some (.int .i64 left') := hK.ho.cell 1
    have y2 : wr.cell? ⟨w.heap.size, 2, none⟩ = some (.int .i64 p) := hK.ho.cell 2
    have c0 : wr.cell? ⟨mb, 0, none⟩ = some u0 := hK.hb.ho.cell 0
    have hrow : wr.ownsRow (mb + 1) 122 3 u0 l.length (l.flatMap moC) := hK.hb.h0
    by_cases hl : left' = 0
    · subst hl
      have HM2 : Hid (M = (out, (l, S.2))) := Lib.hid (by rw [HMM.out, ← hml, meetL_zero]; simp)
      have HK := Lib.hid hK
      clear hml hxs hK hrow c0 hl0 hl9 hln hon hon2
      go_wp2_with fail
      rw [Exit.noGoto_ret]
      go_ret
      rw [HM2.out]
      exact ⟨_, rfl, HK.out.hown, u0, u1, HK.out.hb, HK.out.hm, HK.out.hf⟩
    · have hlp : 0 < left' := by omega
      cases l with
      | nil =>
          obtain ⟨A, c, hu, -, -, -⟩ := own_shape hrow
          subst hu
          have HRe : Hid (R = (left', [], out)) := Lib.hid hml.symm
          have HLn : Hid (([] : List Mo).length ≤ S.1.length) := Lib.hid (by simp)
          have HK := Lib.hid hK
          clear hml hxs hK hrow hl hln hon hon2
          go_upto_region 5 with (fail)
          go_quiet (fail)
          go_upto_region 13 with (fail)
          refine cutW (fun V => MeAt w mb v0 v1 nm p V (.slice A 0 c) u1 ([], S.2) left' (.slice Ao out.length co) out) (HK.out.gen ((Mods.refl (fun _ => False) _).drewN _)) ?_
          clear y0 y1 y2 c0 HK
          rintro V hK
          have y0 : V.cell? ⟨w.heap.size, 0, none⟩ = some (.string nm) := hK.ho.cell 0
          have y1 : V.cell? ⟨w.heap.size, 1, none⟩ = some (.int .i64 left') := hK.ho.cell 1
          have y2 : V.cell? ⟨w.heap.size, 2, none⟩ = some (.int .i64 p) := hK.ho.cell 2
          obtain ⟨A2, c2, hu2, -, -, -⟩ := own_shape hK.hb.h1
          have hb2 := hK.hb
          rw [hu2] at hb2
          have h91 := mo91_1 V mb A2 _ c2 _ _ hb2 rfl (by have := HN9.out; have := HLn.out; simp only at this ⊢; omega) ⟨nm, left', p⟩ (mPos 2 p S.2) (idxP_le _ _) (fun j x hj hx => idxP_lt (fun x : Mo => btr 2 p x.price) (l := S.2) hj hx) (fun j x hj hx => mPos_ge HS.out hj hx)
          have H91 := Lib.hid h91
          rw [← hu2] at H91
          have HK := Lib.hid hK
          have HM2 : Hid (M = (out, ([], insM 2 ⟨nm, left', p⟩ S.2))) := Lib.hid (by rw [HMM.out, HRe.out]; simp only; rw [if_pos hlp])
          clear hb2 h91 hK hu2
          go_wp2_with (go_at_call 91; refine H91.out.mono ?_; rintro e w2 ⟨rfl, u0', u1', ha, hb, hc⟩)
          rw [Exit.noGoto_ret]
          go_ret
          have hK2 := HK.out.to ha hb hc
          rw [HM2.out]
          exact ⟨_, rfl, hK2.hown, u0', u1', hK2.hb, hK2.hm, hK2.hf⟩
      | cons x t =>
          obtain ⟨A, c, hu, -, -, -⟩ := own_shape hrow
          subst hu
          obtain ⟨g, cur, hA, -⟩ := own_ob hrow (by simp)
          subst hA
          obtain ⟨m, hm⟩ : ∃ m, t.length = m := ⟨_, rfl⟩
          simp only [List.length_cons, hm] at hK c0 hrow hln hon hon2
          have Hm := Lib.hid hm
          have HY1 := Lib.hid y1
          clear hrow y0 y1 y2 c0 hm
          have y0 : wr.cell? ⟨w.heap.size, 0, none⟩ = some (.string nm) := hK.ho.cell 0
          have y1 : wr.cell? ⟨w.heap.size, 1, none⟩ = some (.int .i64 left') := hK.ho.cell 1
          have y2 : wr.cell? ⟨w.heap.size, 2, none⟩ = some (.int .i64 p) := hK.ho.cell 2
          have y3 := hK.ho.frozen
          have y4 := hK.ho.lt
          have hrow : wr.ownsRow (mb + 1) 122 3 (.slice (some ⟨g, 0, none⟩) (m + 1) c) (m + 1) (moC x ++ t.flatMap moC) := by
            have := hK.hb.h0
            simp only [List.length_cons, List.flatMap_cons, Hm.out] at this
            exact this
          obtain ⟨d1, d2, d3, d4, x0, x1, x2, hset⟩ := own_hd hrow
          have c0 : wr.cell? ⟨mb, 0, none⟩ = some (.slice (some ⟨g, 0, none⟩) (m + 1) c) := hK.hb.ho.cell 0
          have z0 := hK.hb.ho.frozen
          have z1 := hK.hb.ho.lt
          have HK := Lib.hid hK
          have HSet := Lib.hid hset
          clear hset hrow hK
          have hz : ((m : Int) + 1 == 0) = false := by simp; omega
          have hxx := hxs x (List.mem_cons_self ..)
          have HXs : Hid (∀ y ∈ t, 1 ≤ y.left ∧ y.left ≤ 1099511627776) := Lib.hid (fun y hy => hxs y (List.mem_cons_of_mem _ hy))
          have HLn : Hid ((x :: t).length ≤ S.1.length) := Lib.hid (by rw [HN.out, List.length_cons, Hm.out]; exact hln)
          have HG : Hid (∀ V, Calls Try.prog 52 #[.int .i64 2, .int .i64 p, .int .i64 x.price] V fun e w' => e = .returned (.bool (goodB 2 p x.price)) ∧ w' = V) := Lib.hid (fun V => (mo52 V 2 p x.price).mono fun _ _ ⟨a, b⟩ => ⟨a, b.symm⟩)
          cases hg : goodB 2 p x.price with
          | false =>
          rw [hg] at HG
          have HRe : Hid (R = (left', x :: t, out)) := Lib.hid (by rw [← hml]; unfold meetL; rw [if_neg (by rw [hg]; simp)])
          clear hg hml hxs hl
          go_upto_region 5 with (fail)
          go_quiet ((go_at_call 52; exact Calls.quiet_of_same (HG.out _)))
          go_upto_region 13 with (fail)
          refine cutW (fun V => MeAt w mb v0 v1 nm p V (.slice (some ⟨g, 0, none⟩) (m + 1) c) u1 (x :: t, S.2) left' (.slice Ao out.length co) out) (HK.out.gen ((Mods.refl (fun _ => False) _).drewN _)) ?_
          clear y0 y1 y2 y3 y4 x0 x1 x2 c0 z0 z1 d1 d3 d4 HK
          rintro V hK
          have y0 : V.cell? ⟨w.heap.size, 0, none⟩ = some (.string nm) := hK.ho.cell 0
          have y1 : V.cell? ⟨w.heap.size, 1, none⟩ = some (.int .i64 left') := hK.ho.cell 1
          have y2 : V.cell? ⟨w.heap.size, 2, none⟩ = some (.int .i64 p) := hK.ho.cell 2
          obtain ⟨A2, c2, hu2, -, -, -⟩ := own_shape hK.hb.h1
          have hb2 := hK.hb
          rw [hu2] at hb2
          have h91 := mo91_1 V mb A2 _ c2 _ _ hb2 rfl (by have := HN9.out; have := HLn.out; simp only at this ⊢; omega) ⟨nm, left', p⟩ (mPos 2 p S.2) (idxP_le _ _) (fun j x hj hx => idxP_lt (fun x : Mo => btr 2 p x.price) (l := S.2) hj hx) (fun j x hj hx => mPos_ge HS.out hj hx)
          have H91 := Lib.hid h91
          rw [← hu2] at H91
          have HK := Lib.hid hK
          have HM2 : Hid (M = (out, (x :: t, insM 2 ⟨nm, left', p⟩ S.2))) := Lib.hid (by rw [HMM.out, HRe.out]; simp only; rw [if_pos hlp])
          clear hb2 h91 hK hu2
          go_wp2_with (go_at_call 91; refine H91.out.mono ?_; rintro e w2 ⟨rfl, u0', u1', ha, hb, hc⟩)
          rw [Exit.noGoto_ret]
          go_ret
          have hK2 := HK.out.to ha hb hc
          rw [HM2.out]
          exact ⟨_, rfl, hK2.hown, u0', u1', hK2.hb, hK2.hm, hK2.hf⟩
          | true =>
          rw [hg] at HG
          go_upto_region 5 with (fail)
          go_quiet ((go_at_call 52; exact Calls.quiet_of_same (HG.out _)))
          have Ho3 : Hid (out.length + 1 ≤ 1000000) := Lib.hid (by omega)
          have HML := Lib.hid hml
          have HGG := Lib.hid hg
          have hxx1 := hxx.1
          have hxx2 := hxx.2
          clear hml hg hxs hxx hl
          by_cases hlt : left' < x.left
          · have hwB : IntKind.i64.wrap (x.left - left') = x.left - left' := by rw [IntWalk.i64_in _ (by omega)]
            have hz2 : (x.left - left' == 0) = false := by simp; omega
            have hz3 : ¬ x.left - left' = 0 := by omega
            have hz4 : ¬ x.left < left' := by omega
            have HTR : Hid (∃ T : Tr, T = ⟨x.id, nm, left', x.price⟩) := Lib.hid ⟨_, rfl⟩
            go_upto_region 6 with (fail)
            refine cutW (fun V => MeAt w mb v0 v1 nm p V (.slice (some ⟨g, 0, none⟩) (m + 1) c) u1 (x :: t, S.2) left' (.slice Ao out.length co) out) (HK.out.gen ((Mods.refl (fun _ => False) _).drewN _)) ?_
            clear y0 y1 y2 y3 y4 x0 x1 x2 c0 z0 z1 d1 d3 d4 HK HSet
            rintro V hK
            have y0 : V.cell? ⟨w.heap.size, 0, none⟩ = some (.string nm) := hK.ho.cell 0
            have y1 : V.cell? ⟨w.heap.size, 1, none⟩ = some (.int .i64 left') := hK.ho.cell 1
            have y2 : V.cell? ⟨w.heap.size, 2, none⟩ = some (.int .i64 p) := hK.ho.cell 2
            have y3 := hK.ho.frozen
            have y4 := hK.ho.lt
            have hrow : V.ownsRow (mb + 1) 122 3 (.slice (some ⟨g, 0, none⟩) (m + 1) c) (m + 1) (moC x ++ t.flatMap moC) := by
              have := hK.hb.h0
              simp only [List.length_cons, List.flatMap_cons, Hm.out] at this
              exact this
            obtain ⟨d1, d2, d3, d4, x0, x1, x2, hset⟩ := own_hd hrow
            have c0 : V.cell? ⟨mb, 0, none⟩ = some (.slice (some ⟨g, 0, none⟩) (m + 1) c) := hK.hb.ho.cell 0
            have z0 := hK.hb.ho.frozen
            have z1 := hK.hb.ho.lt
            have HK := Lib.hid hK
            have HSet := Lib.hid hset
            clear hset hrow hK
            refine wp_region_tail 6 (by kernel_rfl) (by kernel_rfl) ?_
            simp only [List.take_succ_cons, List.take_zero, List.drop_succ_cons, List.drop_zero]
            repeat (go_big_quiet_step (fail))
            refine wpQuiet_nil ?_
            go_upto_region 7 with (fail)
            refine cutW (fun V => MeAt w mb v0 v1 nm p V (.slice (some ⟨g, 0, none⟩) (m + 1) c) u1 (x :: t, S.2) left' (.slice Ao out.length co) out) (HK.out.gen (Mods.refl (fun _ => False) _).drew) ?_
            clear y0 y1 y2 y3 y4 x0 x1 x2 c0 z0 z1 d1 d3 d4 HK HSet V
            rintro V hK
            have y0 : V.cell? ⟨w.heap.size, 0, none⟩ = some (.string nm) := hK.ho.cell 0
            have y1 : V.cell? ⟨w.heap.size, 1, none⟩ = some (.int .i64 left') := hK.ho.cell 1
            have y2 : V.cell? ⟨w.heap.size, 2, none⟩ = some (.int .i64 p) := hK.ho.cell 2
            have y3 := hK.ho.frozen
            have y4 := hK.ho.lt
            have hrow : V.ownsRow (mb + 1) 122 3 (.slice (some ⟨g, 0, none⟩) (m + 1) c) (m + 1) (moC x ++ t.flatMap moC) := by
              have := hK.hb.h0
              simp only [List.length_cons, List.flatMap_cons, Hm.out] at this
              exact this
            obtain ⟨d1, d2, d3, d4, x0, x1, x2, hset⟩ := own_hd hrow
            have c0 : V.cell? ⟨mb, 0, none⟩ = some (.slice (some ⟨g, 0, none⟩) (m + 1) c) := hK.hb.ho.cell 0
            have z0 := hK.hb.ho.frozen
            have z1 := hK.hb.ho.lt
            have HK := Lib.hid hK
            have HSet := Lib.hid hset
            clear hset hrow hK
            have Hnb : Hid (∀ k, (Value.slice Ao out.length co).ownBlock = some k → g ≠ k ∧ w.heap.size ≠ k) := Lib.hid (fun k hk => ⟨fun e => (HK.out.hx g (.inr (.inl rfl))).2 (by rw [e]; exact hk), fun e => by have := own_block HK.out.hown k hk; omega⟩)
            have Hsz : Hid (∀ o, w.heap.size + 1 ≤ (V.drew.alloc o).heap.size) := Lib.hid (fun o => by simp; omega)
            go_region_held3 (fun w' => w'.cell? ⟨g, 0, none⟩ = some (.string x.id) ∧ w'.cell? ⟨g, 2, none⟩ = some (.int .i64 x.price) ∧ w'.cell? ⟨w.heap.size, 0, none⟩ = some (.string nm))
              (first | exact ⟨x0, x2, y0⟩ | exact ⟨g1, g2, g3⟩ | exact ⟨cell_al _ x0, cell_al _ x2, cell_al _ y0⟩ | go_keep)
              (first
                | (refine step_append1 rfl (.tmp 43) (.tmp 56) 62 rfl (w.heap.size + 1) 108 i0 _ 4 48 Try.underlying62 HI.out HZ0.out HZ1.out HZ2.out rfl (by decide) (.slice Ao out.length co) out.length _ rfl (own_mods HK.out.hown (((Mods.refl (fun _ => False) V).drew).alloc (.cells #[.string x.id, .string nm, .int .i64 left', .int .i64 x.price] 108)) (fun _ _ => id)) _ [.string x.id, .string nm, .int .i64 left', .int .i64 x.price] rfl ?_ rfl ?_ Ho3.out ?_ (Hsz.out _) (fun vo2 w2 hown2 hg2 hat2 => ?_)
                   · exact Ob.new _ 108 [.string x.id, .string nm, .int .i64 left', .int .i64 x.price]
                   · simp [Value.oneCell']
                   · decide
                   have g1 := cell_gr hg2 (cell_al _ x0) (fun k hk => (Hnb.out k hk).1)
                   have g2 := cell_gr hg2 (cell_al _ x2) (fun k hk => (Hnb.out k hk).1)
                   have g3 := cell_gr hg2 (cell_al _ y0) (fun k hk => (Hnb.out k hk).2)))
            obtain ⟨A2, c2, rfl, -, -, -⟩ := own_shape hown2
            go_upto_region 8 with (fail)
            have hK2 : MeAt w mb v0 v1 nm p w2 (.slice (some ⟨g, 0, none⟩) (m + 1) c) u1 (x :: t, S.2) left' (.slice A2 (out.length + 1) c2) (out ++ [⟨x.id, nm, left', x.price⟩]) := HK.out.app ((((Mods.refl _ V).drew).alloc _).grown hg2 (fun k hk => .inl hk)) (by
              rw [List.length_append, List.flatMap_append]
              simpa [trC] using hown2) (fun k hk => by
              rcases hat2 with h6 | h6
              · left; rw [h6] at hk; exact hk
              · right
                rw [h6] at hk
                injection hk with hk
                simp at hk
                omega)
            refine cutW (fun V => MeAt w mb v0 v1 nm p V (.slice (some ⟨g, 0, none⟩) (m + 1) c) u1 (x :: t, S.2) left' (.slice A2 (out.length + 1) c2) (out ++ [⟨x.id, nm, left', x.price⟩])) hK2 ?_
            clear y0 y1 y2 y3 y4 x0 x1 x2 c0 z0 z1 d1 d3 d4 HK HSet hown2 hg2 hat2 hK2 g1 g2 g3 Hnb Hsz
            rintro V hK
            have y0 : V.cell? ⟨w.heap.size, 0, none⟩ = some (.string nm) := hK.ho.cell 0
            have y1 : V.cell? ⟨w.heap.size, 1, none⟩ = some (.int .i64 left') := hK.ho.cell 1
            have y2 : V.cell? ⟨w.heap.size, 2, none⟩ = some (.int .i64 p) := hK.ho.cell 2
            have y3 := hK.ho.frozen
            have y4 := hK.ho.lt
            have hrow : V.ownsRow (mb + 1) 122 3 (.slice (some ⟨g, 0, none⟩) (m + 1) c) (m + 1) (moC x ++ t.flatMap moC) := by
              have := hK.hb.h0
              simp only [List.length_cons, List.flatMap_cons, Hm.out] at this
              exact this
            obtain ⟨d1, d2, d3, d4, x0, x1, x2, hset⟩ := own_hd hrow
            have c0 : V.cell? ⟨mb, 0, none⟩ = some (.slice (some ⟨g, 0, none⟩) (m + 1) c) := hK.hb.ho.cell 0
            have z0 := hK.hb.ho.frozen
            have z1 := hK.hb.ho.lt
            have HK := Lib.hid hK
            have HSet := Lib.hid hset
            clear hset hrow hK
            go_upto_region 9 with (fail)
            refine cutW (fun V => MeAt w mb v0 v1 nm p V (.slice (some ⟨g, 0, none⟩) (m + 1) c) u1 (x :: t, S.2) 0 (.slice A2 (out.length + 1) c2) (out ++ [⟨x.id, nm, left', x.price⟩])) (HK.out.setL 0) ?_
            clear y0 y1 y2 y3 y4 x0 x1 x2 c0 z0 z1 d1 d3 d4 HK HSet V
            rintro V hK
            have y0 : V.cell? ⟨w.heap.size, 0, none⟩ = some (.string nm) := hK.ho.cell 0
            have y1 : V.cell? ⟨w.heap.size, 1, none⟩ = some (.int .i64 0) := hK.ho.cell 1
            have y2 : V.cell? ⟨w.heap.size, 2, none⟩ = some (.int .i64 p) := hK.ho.cell 2
            have y3 := hK.ho.frozen
            have y4 := hK.ho.lt
            have hrow : V.ownsRow (mb + 1) 122 3 (.slice (some ⟨g, 0, none⟩) (m + 1) c) (m + 1) (moC x ++ t.flatMap moC) := by
              have := hK.hb.h0
              simp only [List.length_cons, List.flatMap_cons, Hm.out] at this
              exact this
            obtain ⟨d1, d2, d3, d4, x0, x1, x2, hset⟩ := own_hd hrow
            have c0 : V.cell? ⟨mb, 0, none⟩ = some (.slice (some ⟨g, 0, none⟩) (m + 1) c) := hK.hb.ho.cell 0
            have z0 := hK.hb.ho.frozen
            have z1 := hK.hb.ho.lt
            have HK := Lib.hid hK
            have HSet := Lib.hid hset
            clear hset hrow hK
            go_upto_region 10 with (fail)
            have hK2 : MeAt w mb v0 v1 nm p (V.setCell ⟨g, 1, none⟩ (.int .i64 (x.left - left'))) (.slice (some ⟨g, 0, none⟩) (m + 1) c) u1 ({ x with left := (x.left - left') } :: t, S.2) 0 (.slice A2 (out.length + 1) c2) (out ++ [⟨x.id, nm, left', x.price⟩]) := by
              obtain ⟨q1, q2⟩ := HK.out.hb.cell0 (g := g) (i := 1) (v := .int .i64 (x.left - left')) (l := { x with left := (x.left - left') } :: t) rfl (by simp) (by
                have := HSet.out (x.left - left')
                simp only [List.length_cons, List.flatMap_cons, Hm.out]
                exact this)
              exact HK.out.to q1 q2 (fun k hk => .inl hk)
            refine cutW (fun V => MeAt w mb v0 v1 nm p V (.slice (some ⟨g, 0, none⟩) (m + 1) c) u1 ({ x with left := (x.left - left') } :: t, S.2) 0 (.slice A2 (out.length + 1) c2) (out ++ [⟨x.id, nm, left', x.price⟩])) hK2 ?_
            clear y0 y1 y2 y3 y4 x0 x1 x2 c0 z0 z1 d1 d3 d4 HK HSet hK2 V
            rintro V hK
            have y0 : V.cell? ⟨w.heap.size, 0, none⟩ = some (.string nm) := hK.ho.cell 0
            have y1 : V.cell? ⟨w.heap.size, 1, none⟩ = some (.int .i64 0) := hK.ho.cell 1
            have y2 : V.cell? ⟨w.heap.size, 2, none⟩ = some (.int .i64 p) := hK.ho.cell 2
            have y3 := hK.ho.frozen
            have y4 := hK.ho.lt
            have hrow : V.ownsRow (mb + 1) 122 3 (.slice (some ⟨g, 0, none⟩) (m + 1) c) (m + 1) (moC { x with left := (x.left - left') } ++ t.flatMap moC) := by
              have := hK.hb.h0
              simp only [List.length_cons, List.flatMap_cons, Hm.out] at this
              exact this
            obtain ⟨d1, d2, d3, d4, x0, x1, x2, hset⟩ := own_hd hrow
            have c0 : V.cell? ⟨mb, 0, none⟩ = some (.slice (some ⟨g, 0, none⟩) (m + 1) c) := hK.hb.ho.cell 0
            have z0 := hK.hb.ho.frozen
            have z1 := hK.hb.ho.lt
            have HK := Lib.hid hK
            have HSet := Lib.hid hset
            clear hset hrow hK
            go_wp2_with fail
            go_roundw
            case rel => exact ⟨0, { x with left := x.left - left' } :: t, out ++ [⟨x.id, nm, left', x.price⟩], _, _, A2, c2, by simp, by rw [List.length_append]; exact HK.out, by rw [meetL_zero, ← HML.out]; unfold meetL; rw [if_pos ⟨hlp, HGG.out⟩, if_pos hlt], by omega, by omega, fun y hy => by
              rcases List.mem_cons.1 hy with rfl | hy
              · simp only; omega
              · exact HXs.out y hy, by rw [List.length_cons, Hm.out]; exact hln, by simp only [List.length_append, List.length_cons, List.length_nil, Hm.out]; omega, fun h => by omega⟩
            case measure =>
              simp only [HY1.out, y1, Option.getD_some, intOf]
              omega
          have hmn : (if x.left < left' then x.left else left') = x.left := by split <;> omega
          have hwA : IntKind.i64.wrap (left' - x.left) = left' - x.left := by rw [IntWalk.i64_in _ (by omega)]
          have HTR : Hid (∃ T : Tr, T = ⟨x.id, nm, x.left, x.price⟩) := Lib.hid ⟨_, rfl⟩
          go_upto_region 6 with (fail)
          refine cutW (fun V => MeAt w mb v0 v1 nm p V (.slice (some ⟨g, 0, none⟩) (m + 1) c) u1 (x :: t, S.2) left' (.slice Ao out.length co) out) (HK.out.gen ((Mods.refl (fun _ => False) _).drewN _)) ?_
          clear y0 y1 y2 y3 y4 x0 x1 x2 c0 z0 z1 d1 d3 d4 HK HSet
          rintro V hK
          have y0 : V.cell? ⟨w.heap.size, 0, none⟩ = some (.string nm) := hK.ho.cell 0
          have y1 : V.cell? ⟨w.heap.size, 1, none⟩ = some (.int .i64 left') := hK.ho.cell 1
          have y2 : V.cell? ⟨w.heap.size, 2, none⟩ = some (.int .i64 p) := hK.ho.cell 2
          have y3 := hK.ho.frozen
          have y4 := hK.ho.lt
          have hrow : V.ownsRow (mb + 1) 122 3 (.slice (some ⟨g, 0, none⟩) (m + 1) c) (m + 1) (moC x ++ t.flatMap moC) := by
            have := hK.hb.h0
            simp only [List.length_cons, List.flatMap_cons, Hm.out] at this
            exact this
          obtain ⟨d1, d2, d3, d4, x0, x1, x2, hset⟩ := own_hd hrow
          have c0 : V.cell? ⟨mb, 0, none⟩ = some (.slice (some ⟨g, 0, none⟩) (m + 1) c) := hK.hb.ho.cell 0
          have z0 := hK.hb.ho.frozen
          have z1 := hK.hb.ho.lt
          have HK := Lib.hid hK
          have HSet := Lib.hid hset
          clear hset hrow hK
          refine wp_region_tail 6 (by kernel_rfl) (by kernel_rfl) ?_
          simp only [List.take_succ_cons, List.take_zero, List.drop_succ_cons, List.drop_zero]
          repeat (go_big_quiet_step (fail))
          refine wpQuiet_nil ?_
          go_upto_region 7 with (fail)
          refine cutW (fun V => MeAt w mb v0 v1 nm p V (.slice (some ⟨g, 0, none⟩) (m + 1) c) u1 (x :: t, S.2) left' (.slice Ao out.length co) out) (HK.out.gen (Mods.refl (fun _ => False) _).drew) ?_
          clear y0 y1 y2 y3 y4 x0 x1 x2 c0 z0 z1 d1 d3 d4 HK HSet V
          rintro V hK
          have y0 : V.cell? ⟨w.heap.size, 0, none⟩ = some (.string nm) := hK.ho.cell 0
          have y1 : V.cell? ⟨w.heap.size, 1, none⟩ = some (.int .i64 left') := hK.ho.cell 1
          have y2 : V.cell? ⟨w.heap.size, 2, none⟩ = some (.int .i64 p) := hK.ho.cell 2
          have y3 := hK.ho.frozen
          have y4 := hK.ho.lt
          have hrow : V.ownsRow (mb + 1) 122 3 (.slice (some ⟨g, 0, none⟩) (m + 1) c) (m + 1) (moC x ++ t.flatMap moC) := by
            have := hK.hb.h0
            simp only [List.length_cons, List.flatMap_cons, Hm.out] at this
            exact this
          obtain ⟨d1, d2, d3, d4, x0, x1, x2, hset⟩ := own_hd hrow
          have c0 : V.cell? ⟨mb, 0, none⟩ = some (.slice (some ⟨g, 0, none⟩) (m + 1) c) := hK.hb.ho.cell 0
          have z0 := hK.hb.ho.frozen
          have z1 := hK.hb.ho.lt
          have HK := Lib.hid hK
          have HSet := Lib.hid hset
          clear hset hrow hK
          have Hnb : Hid (∀ k, (Value.slice Ao out.length co).ownBlock = some k → g ≠ k ∧ w.heap.size ≠ k) := Lib.hid (fun k hk => ⟨fun e => (HK.out.hx g (.inr (.inl rfl))).2 (by rw [e]; exact hk), fun e => by have := own_block HK.out.hown k hk; omega⟩)
          have Hsz : Hid (∀ o, w.heap.size + 1 ≤ (V.drew.alloc o).heap.size) := Lib.hid (fun o => by simp; omega)
          go_region_held3 (fun w' => w'.cell? ⟨g, 0, none⟩ = some (.string x.id) ∧ w'.cell? ⟨g, 2, none⟩ = some (.int .i64 x.price) ∧ w'.cell? ⟨w.heap.size, 0, none⟩ = some (.string nm))
            (first | exact ⟨x0, x2, y0⟩ | exact ⟨g1, g2, g3⟩ | exact ⟨cell_al _ x0, cell_al _ x2, cell_al _ y0⟩ | go_keep)
            (first
              | (refine step_append1 rfl (.tmp 43) (.tmp 56) 62 rfl (w.heap.size + 1) 108 i0 _ 4 48 Try.underlying62 HI.out HZ0.out HZ1.out HZ2.out rfl (by decide) (.slice Ao out.length co) out.length _ rfl (own_mods HK.out.hown (((Mods.refl (fun _ => False) V).drew).alloc (.cells #[.string x.id, .string nm, .int .i64 x.left, .int .i64 x.price] 108)) (fun _ _ => id)) _ [.string x.id, .string nm, .int .i64 x.left, .int .i64 x.price] rfl ?_ rfl ?_ Ho3.out ?_ (Hsz.out _) (fun vo2 w2 hown2 hg2 hat2 => ?_)
                 · exact Ob.new _ 108 [.string x.id, .string nm, .int .i64 x.left, .int .i64 x.price]
                 · simp [Value.oneCell']
                 · decide
                 have g1 := cell_gr hg2 (cell_al _ x0) (fun k hk => (Hnb.out k hk).1)
                 have g2 := cell_gr hg2 (cell_al _ x2) (fun k hk => (Hnb.out k hk).1)
                 have g3 := cell_gr hg2 (cell_al _ y0) (fun k hk => (Hnb.out k hk).2)))
          obtain ⟨A2, c2, rfl, -, -, -⟩ := own_shape hown2
          go_upto_region 8 with (fail)
          have hK2 : MeAt w mb v0 v1 nm p w2 (.slice (some ⟨g, 0, none⟩) (m + 1) c) u1 (x :: t, S.2) left' (.slice A2 (out.length + 1) c2) (out ++ [⟨x.id, nm, x.left, x.price⟩]) := HK.out.app ((((Mods.refl _ V).drew).alloc _).grown hg2 (fun k hk => .inl hk)) (by
            rw [List.length_append, List.flatMap_append]
            simpa [trC] using hown2) (fun k hk => by
            rcases hat2 with h6 | h6
            · left; rw [h6] at hk; exact hk
            · right
              rw [h6] at hk
              injection hk with hk
              simp at hk
              omega)
          refine cutW (fun V => MeAt w mb v0 v1 nm p V (.slice (some ⟨g, 0, none⟩) (m + 1) c) u1 (x :: t, S.2) left' (.slice A2 (out.length + 1) c2) (out ++ [⟨x.id, nm, x.left, x.price⟩])) hK2 ?_
          clear y0 y1 y2 y3 y4 x0 x1 x2 c0 z0 z1 d1 d3 d4 HK HSet hown2 hg2 hat2 hK2 g1 g2 g3 Hnb Hsz
          rintro V hK
          have y0 : V.cell? ⟨w.heap.size, 0, none⟩ = some (.string nm) := hK.ho.cell 0
          have y1 : V.cell? ⟨w.heap.size, 1, none⟩ = some (.int .i64 left') := hK.ho.cell 1
          have y2 : V.cell? ⟨w.heap.size, 2, none⟩ = some (.int .i64 p) := hK.ho.cell 2
          have y3 := hK.ho.frozen
          have y4 := hK.ho.lt
          have hrow : V.ownsRow (mb + 1) 122 3 (.slice (some ⟨g, 0, none⟩) (m + 1) c) (m + 1) (moC x ++ t.flatMap moC) := by
            have := hK.hb.h0
            simp only [List.length_cons, List.flatMap_cons, Hm.out] at this
            exact this
          obtain ⟨d1, d2, d3, d4, x0, x1, x2, hset⟩ := own_hd hrow
          have c0 : V.cell? ⟨mb, 0, none⟩ = some (.slice (some ⟨g, 0, none⟩) (m + 1) c) := hK.hb.ho.cell 0
          have z0 := hK.hb.ho.frozen
          have z1 := hK.hb.ho.lt
          have HK := Lib.hid hK
          have HSet := Lib.hid hset
          clear hset hrow hK
          go_upto_region 9 with (fail)
          refine cutW (fun V => MeAt w mb v0 v1 nm p V (.slice (some ⟨g, 0, none⟩) (m + 1) c) u1 (x :: t, S.2) (left' - x.left) (.slice A2 (out.length + 1) c2) (out ++ [⟨x.id, nm, x.left, x.price⟩])) (HK.out.setL (left' - x.left)) ?_
          clear y0 y1 y2 y3 y4 x0 x1 x2 c0 z0 z1 d1 d3 d4 HK HSet V
          rintro V hK
          have y0 : V.cell? ⟨w.heap.size, 0, none⟩ = some (.string nm) := hK.ho.cell 0
          have y1 : V.cell? ⟨w.heap.size, 1, none⟩ = some (.int .i64 (left' - x.left)) := hK.ho.cell 1
          have y2 : V.cell? ⟨w.heap.size, 2, none⟩ = some (.int .i64 p) := hK.ho.cell 2
          have y3 := hK.ho.frozen
          have y4 := hK.ho.lt
          have hrow : V.ownsRow (mb + 1) 122 3 (.slice (some ⟨g, 0, none⟩) (m + 1) c) (m + 1) (moC x ++ t.flatMap moC) := by
            have := hK.hb.h0
            simp only [List.length_cons, List.flatMap_cons, Hm.out] at this
            exact this
          obtain ⟨d1, d2, d3, d4, x0, x1, x2, hset⟩ := own_hd hrow
          have c0 : V.cell? ⟨mb, 0, none⟩ = some (.slice (some ⟨g, 0, none⟩) (m + 1) c) := hK.hb.ho.cell 0
          have z0 := hK.hb.ho.frozen
          have z1 := hK.hb.ho.lt
          have HK := Lib.hid hK
          have HSet := Lib.hid hset
          clear hset hrow hK
          go_upto_region 10 with (fail)
          have hK2 : MeAt w mb v0 v1 nm p (V.setCell ⟨g, 1, none⟩ (.int .i64 0)) (.slice (some ⟨g, 0, none⟩) (m + 1) c) u1 ({ x with left := 0 } :: t, S.2) (left' - x.left) (.slice A2 (out.length + 1) c2) (out ++ [⟨x.id, nm, x.left, x.price⟩]) := by
            obtain ⟨q1, q2⟩ := HK.out.hb.cell0 (g := g) (i := 1) (v := .int .i64 0) (l := { x with left := 0 } :: t) rfl (by simp) (by
              have := HSet.out 0
              simp only [List.length_cons, List.flatMap_cons, Hm.out]
              exact this)
            exact HK.out.to q1 q2 (fun k hk => .inl hk)
          refine cutW (fun V => MeAt w mb v0 v1 nm p V (.slice (some ⟨g, 0, none⟩) (m + 1) c) u1 ({ x with left := 0 } :: t, S.2) (left' - x.left) (.slice A2 (out.length + 1) c2) (out ++ [⟨x.id, nm, x.left, x.price⟩])) hK2 ?_
          clear y0 y1 y2 y3 y4 x0 x1 x2 c0 z0 z1 d1 d3 d4 HK HSet hK2 V
          rintro V hK
          have y0 : V.cell? ⟨w.heap.size, 0, none⟩ = some (.string nm) := hK.ho.cell 0
          have y1 : V.cell? ⟨w.heap.size, 1, none⟩ = some (.int .i64 (left' - x.left)) := hK.ho.cell 1
          have y2 : V.cell? ⟨w.heap.size, 2, none⟩ = some (.int .i64 p) := hK.ho.cell 2
          have y3 := hK.ho.frozen
          have y4 := hK.ho.lt
          have hrow : V.ownsRow (mb + 1) 122 3 (.slice (some ⟨g, 0, none⟩) (m + 1) c) (m + 1) (moC { x with left := 0 } ++ t.flatMap moC) := by
            have := hK.hb.h0
            simp only [List.length_cons, List.flatMap_cons, Hm.out] at this
            exact this
          obtain ⟨d1, d2, d3, d4, x0, x1, x2, hset⟩ := own_hd hrow
          have c0 : V.cell? ⟨mb, 0, none⟩ = some (.slice (some ⟨g, 0, none⟩) (m + 1) c) := hK.hb.ho.cell 0
          have z0 := hK.hb.ho.frozen
          have z1 := hK.hb.ho.lt
          have HK := Lib.hid hK
          have HSet := Lib.hid hset
          clear hset hrow hK
          have hdel : ∀ V', V'.ownsRow (mb + 1) 122 3 (.slice (some ⟨g, 0, none⟩) (m + 1) c) (m + 1) (moC { x with left := 0 } ++ t.flatMap moC) → Calls Try.prog 81 #[.slice (some ⟨g, 0, none⟩) (m + 1) c, .int .i64 0, .int .i64 1] V' fun e w' => DelP81 V' (mb + 1) (.slice (some ⟨g, 0, none⟩) (m + 1) c) (m + 1) 0 (moC { x with left := 0 } ++ t.flatMap moC) e w' := fun V' ho => delete81 V' (mb + 1) _ (m + 1) 0 _ ho (by omega) (by
            intro u hu
            rcases List.mem_append.1 hu with hu | hu
            · exact moC_one _ u hu
            · exact mo_one t u hu) (by omega)
          have HDel := Lib.hid hdel
          have hrow : V.ownsRow (mb + 1) 122 3 (.slice (some ⟨g, 0, none⟩) (m + 1) c) (m + 1) (moC { x with left := 0 } ++ t.flatMap moC) := by
            have := HK.out.hb.h0
            simp only [List.length_cons, List.flatMap_cons, Hm.out] at this
            exact this
          have HRow := Lib.hid hrow
          have HOb := Lib.hid (own_block hrow)
          clear hdel hrow
          go_upto_region 11 with (fail)
          go_region_law
            (first
              | (go_simp
                 go_at_call 81
                 refine (HDel.out _ (own_mods HRow.out (Mods.refl (fun _ => False) V).drew (fun _ _ => id))).mono ?_
                 rintro e w6 ⟨v6, rfl, hown6, hg6, hat6⟩
                 obtain ⟨A6, c6, hv6, -, -, -⟩ := own_shape hown6
                 rw [Nat.add_sub_cancel] at hv6
                 subst hv6
                 have ho6 := (HK.out.hb.ho.drew).grown hg6 (fun k hk => by have := HOb.out k hk; omega)
                 have hc6 := ho6.cell
                 have hz6 := ho6.frozen
                 have hl6 := ho6.lt))
          have hput := HK.out.hb.put 0 (by decide) (.slice A6 m c6) t (((Mods.refl (fun k => (if (0 : Nat) = 0 then (Value.slice (some ⟨g, 0, none⟩) (m + 1) c) else (u1 : Value)).ownBlock = some k) V).drew).grown hg6 (fun k hk => .inl hk)) (by
            rw [Hm.out]
            have e : delV 3 0 (moC { x with left := 0 } ++ t.flatMap moC) = t.flatMap moC := by simp [delV, moC]
            rw [e] at hown6
            exact hown6) (fun k hk => by
            left; rw [hat6] at hk; exact hk) (by simp [Sd.at]; omega) (by have := HN9.out; have := HN.out; simp only [List.length_cons, Hm.out]; omega)
          obtain ⟨u0', u1', q1, q2, q3⟩ := hput
          have hK3 := HK.out.to q1 q2 q3
          have y1' := hK3.ho.cell 1
          go_wp2_with fail
          go_roundw
          case rel => exact ⟨left' - x.left, t, out ++ [⟨x.id, nm, x.left, x.price⟩], _, _, A2, c2, by simp, by rw [List.length_append]; exact hK3, by rw [← HML.out]; conv => rhs; unfold meetL; rw [if_pos ⟨hlp, HGG.out⟩, if_neg hlt], by omega, by omega, HXs.out, by rw [Hm.out]; omega, by simp only [List.length_append, List.length_cons, List.length_nil, Hm.out]; omega, fun h => by simp only [List.length_append, List.length_cons, List.length_nil, Hm.out]; have := hon2 hlp; omega⟩
          case measure =>
            simp only [HY1.out, y1', Option.getD_some, intOf]
            simp [intOf]
            omega

end Go.Proofs.Ytjhlaifflhjafaa
