import Derived.Test.YtjhlaifflhjafaaNm
import Derived.Deep.RegionLaw
import Derived.Carry
namespace Go.Proofs.Ytjhlaifflhjafaa
open Go.RowKit Go.Maps

theorem info104 : (Try.prog.info? 104).map (fun i => (i.zero, i.size, i.bytes)) = some (some (.agg #[.int .i64 0, .int .i64 0, .int .i64 0]), 3, 24) := by kernel_rfl
theorem info3 : (Try.prog.info? 3).map (fun i => (i.zero, i.size, i.bytes)) = some (some (.int .i64 0), 1, 8) := by kernel_rfl
set_option maxHeartbeats 400000 in
theorem mo49_nil (w : World) (s : Int) : Calls Try.prog 49 #[.pointer none, .int .i64 s] w fun e w' => e = .returned (.slice none 0 0) ∧ w = w' := by
  go_enter Try.func49, Try.ntmps49
  go_wp2
  go_ret
  exact ⟨rfl, rfl⟩
set_option maxHeartbeats 400000 in
theorem mo49_bad (w : World) (mb : Nat) (s : Int) (hs : inB s 1 2 = false) : Calls Try.prog 49 #[.pointer (some ⟨mb, 0, none⟩), .int .i64 s] w fun e w' => e = .returned (.slice none 0 0) ∧ w = w' := by
  go_enter Try.func49, Try.ntmps49
  go_wp2_with (go_at_call 72; refine (mo72 _ _ _ _).mono ?_; rintro e w1 ⟨rfl, rfl⟩)
  go_ret
  exact ⟨rfl, rfl⟩
/-- Within Depth: what is known of the world. -/
structure DpAt (w : World) (mb : Nat) (v0 v1 : Value) (S : Sd) (W : World) (M : List Lv) (vp : Value) : Prop where
  hb : MbAt W mb v0 v1 S
  hm : MpAt W w.heap.size M
  hp : W.ownsRow (w.heap.size + 1) 3 1 vp M.length (M.map fun x => Value.int .i64 x.price)
  hB : Below w.heap.size w W
theorem DpAt.gen {w W W' : World} {mb : Nat} {v0 v1 vp : Value} {S : Sd} {M : List Lv} (h : DpAt w mb v0 v1 S W M vp) (hB : Below W.heap.size W W') : DpAt w mb v0 v1 S W' M vp :=
  ⟨h.hb.below hB, h.hm.mods (Below.mods_ hB (fun _ => False)) id, own_mods h.hp (Below.mods_ hB (fun _ => False)) (fun _ _ => id), h.hB.trans (hB.mono h.hB.size)⟩
theorem DpAt.lt {w W : World} {mb : Nat} {v0 v1 vp : Value} {S : Sd} {M : List Lv} (h : DpAt w mb v0 v1 S W M vp) : mb < w.heap.size → mb < W.heap.size := fun hm => Nat.lt_of_lt_of_le hm h.hB.size

set_option maxHeartbeats 3200000 in
set_option maxRecDepth 100000 in
theorem mo49_0 (w : World) (mb : Nat) (v0 v1 : Value) (S : Sd) (h : MbAt w mb v0 v1 S) (hb : ∀ x ∈ S.1, (1 ≤ x.left ∧ x.left ≤ 1099511627776) ∧ 1 ≤ x.price ∧ x.price ≤ 1099511627776) :
    Calls Try.prog 49 #[.pointer (some ⟨mb, 0, none⟩), .int .i64 1] w fun e w' => ∃ v, e = .returned v ∧ w'.ownsRow w.heap.size 104 3 v (depthM S.1).length ((depthM S.1).flatMap lvC) ∧ Below w.heap.size w w' := by
  obtain ⟨i0, hi0, hz0, hz1, hz2⟩ := info_parts info3
  have HI := Lib.hid hi0
  have HZ0 := Lib.hid hz0
  have HZ1 := Lib.hid hz1
  have HZ2 := Lib.hid hz2
  obtain ⟨j0, hi0', hz0', hz1', hz2'⟩ := info_parts info104
  have HJ := Lib.hid hi0'
  have HJ0 := Lib.hid hz0'
  have HJ1 := Lib.hid hz1'
  have HJ2 := Lib.hid hz2'
  have H := Lib.hid h
  have HBd := Lib.hid hb
  have hmb := h.ho.lt
  have hsn := h.hn
  obtain ⟨A, c, hv, -, -, -⟩ := own_shape h.h0
  subst hv
  obtain ⟨n, hn⟩ : ∃ n, S.1.length = n := ⟨_, rfl⟩
  have hn9 : n ≤ 1000 := by omega
  have HN := Lib.hid hn
  have hin : inB 1 1 2 = true := by decide
  have wr0 : IntKind.i64.wrap 0 = 0 := by rfl
  have wr1 : IntKind.i64.wrap 1 = 1 := by rfl
  clear hi0 hz0 hz1 hz2 hi0' hz0' hz1' hz2' h hb hsn
  have hmm := @run_makeMap Try.prog
  go_enter Try.func49, Try.ntmps49
  go_upto_region 4 with (go_at_call 72; refine (mo72 _ _ _ _).mono ?_; rintro e w1 ⟨rfl, rfl⟩)
  have hmade := MpAt.made w
  refine cutW (fun W => DpAt w mb (.slice A S.1.length c) v1 S W [] (.slice none 0 0)) ⟨H.out.below (Below.alloc (Below.refl _ _) (Nat.le_refl _) _), hmade, own_nil _ _ _ _, Below.alloc (Below.refl _ _) (Nat.le_refl _) _⟩ ?_
  clear hmade hin hmm
  rintro W hD
  have HD := Lib.hid hD
  have c0 : W.cell? ⟨mb, 0, none⟩ = some (.slice A n c) := by rw [← HN.out]; exact hD.hb.ho.cell 0
  clear hD
  go_wp2_with fail
  clear c0
  go_loopw [6, 30] (fun vp i wr => ∃ (k : Nat) (M : List Lv) (Ap : Option Addr) (cp : Nat), k ≤ n ∧ i = .int .i64 k ∧ vp = .slice Ap M.length cp ∧ DpAt w mb (.slice A S.1.length c) v1 S wr M (.slice Ap M.length cp) ∧ M = depthM (S.1.take k) ∧ LvB M k) (fun _ i _ => n - (intOf i).toNat)
  case atStart => exact ⟨0, [], none, 0, by omega, rfl, rfl, HD.out, rfl, ⟨by simp, by simp, by simp, by simp⟩⟩
  case round =>
    clear HD
    obtain ⟨k, M, Ap, cp, hk, rfl, rfl, hD, hM, hL⟩ := hrel
    have HM := Lib.hid hM
    have HL := Lib.hid hL
    by_cases hlt : k < n
    · obtain ⟨o, ho⟩ : ∃ o, S.1[k]? = some o := ⟨_, List.getElem?_eq_getElem (by rw [HN.out]; exact hlt)⟩
      obtain ⟨hbo1, hbo2⟩ := HBd.out o (List.mem_of_getElem? ho)
      have hrow := Rd.of_own hD.hb.h0
      obtain ⟨g, off, hA, hgl, hg⟩ := hrow.2.2 (by rw [HN.out]; omega)
      subst hA
      have x0 := hg _ _ (flat_at moC 3 moC_len S.1 k 0 o ho (by omega))
      have x1 := hg _ _ (flat_at moC 3 moC_len S.1 k 1 o ho (by omega))
      have x2 := hg _ _ (flat_at moC 3 moC_len S.1 k 2 o ho (by omega))
      rw [← Nat.add_assoc] at x0 x1 x2
      have x0 : wr.cell? ⟨g, off + k * 3, none⟩ = some (.string o.id) := x0
      have x1 : wr.cell? ⟨g, off + k * 3 + 1, none⟩ = some (.int .i64 o.left) := x1
      have x2 : wr.cell? ⟨g, off + k * 3 + 2, none⟩ = some (.int .i64 o.price) := x2
      have HO := Lib.hid ho
      have HD := Lib.hid hD
      have hlk := hL.lk o.price
      have hwf := wf_i64 (k := o.price) (by omega) (by omega)
      have hMn := hL.n
      have HOL := Lib.hid (own_lt HD.out.hp)
      clear hg hrow ho hD hL hM
      go_upto_region 8 with (fail)
      have hO := Ob.new wr 122 [.string o.id, .int .i64 o.left, .int .i64 o.price]
      have hwrs := HD.out.hB.size
      refine cutW (fun V => DpAt w mb (.slice (some ⟨g, off, none⟩) S.1.length c) v1 S V M (.slice Ap M.length cp) ∧ Ob V wr.heap.size 122 [.string o.id, .int .i64 o.left, .int .i64 o.price] ∧ w.heap.size < wr.heap.size) ⟨HD.out.gen Below.alloc_set, hO, HD.out.hm.lt⟩ ?_
      clear hO HD x0 x1 x2
      generalize wr.heap.size = b1 at *
      rintro V ⟨hD, hO, hb1⟩
      have y1 : V.cell? ⟨b1, 1, none⟩ = some (.int .i64 o.left) := hO.cell 1
      have y2 : V.cell? ⟨b1, 2, none⟩ = some (.int .i64 o.price) := hO.cell 2
      have hlook := hD.hm.look o.price hwf
      obtain ⟨lv, hlv⟩ : ∃ lv, lkV M o.price = lv := ⟨_, rfl⟩
      obtain ⟨fd, hfd⟩ : ∃ fd, (lkL M o.price).isSome = fd := ⟨_, rfl⟩
      rw [hlv, hfd] at hlook
      rw [hlv] at hlk
      have HLV := Lib.hid hlv
      have HFD := Lib.hid hfd
      have HO1 := Lib.hid hO
      have HD := Lib.hid hD
      obtain ⟨lp, lq, lo⟩ := lv
      simp only [Lv.agg] at hlook
      simp only at hlk
      clear hlv hfd hO hD
      go_upto_region 9 with (fail)
      have hO2 := Ob.new V 104 [.int .i64 lp, .int .i64 lq, .int .i64 lo]
      refine cutW (fun X => DpAt w mb (.slice (some ⟨g, off, none⟩) S.1.length c) v1 S X M (.slice Ap M.length cp) ∧ Ob X b1 122 [.string o.id, .int .i64 o.left, .int .i64 o.price] ∧ Ob X V.heap.size 104 [.int .i64 lp, .int .i64 lq, .int .i64 lo] ∧ b1 < V.heap.size) ⟨HD.out.gen Below.alloc_set, HO1.out.alloc _, hO2, HO1.out.lt⟩ ?_
      clear hO2 HD HO1 y1 y2 hlook
      generalize V.heap.size = b2 at *
      rintro X ⟨hD, hO1, hO2, hb2⟩
      have HD := Lib.hid hD
      have HO1 := Lib.hid hO1
      have HO2 := Lib.hid hO2
      have hw1 : IntKind.i64.wrap (lq + o.left) = lq + o.left := by rw [IntWalk.i64_in _ (by omega)]
      have hw2 : IntKind.i64.wrap (lo + 1) = lo + 1 := by rw [IntWalk.i64_in _ (by omega)]
      have hX : M.length < maxLen := by unfold maxLen; omega
      have hstore : ∀ X' vp' , DpAt w mb (.slice (some ⟨g, off, none⟩) S.1.length c) v1 S X' M vp' → True := fun _ _ _ => trivial
      have hst : ∀ X', MpAt X' w.heap.size M → ∃ w5, (Instr.mapUpdate 135 (.map (some w.heap.size)) (.int .i64 o.price) (.agg #[.int .i64 o.price, .int .i64 (lq + o.left), .int .i64 (lo + 1)])).run Try.prog X' = .ok () w5 ∧ MpAt w5 w.heap.size (lvUp M o) ∧ Mods (fun k => k = w.heap.size) X' w5 := fun X' hX' => by
        obtain ⟨w5, a, b, cc⟩ := hX'.store ⟨o.price, lq + o.left, lo + 1⟩ hwf hX
        refine ⟨w5, a, ?_, turned_mods cc⟩
        unfold lvUp
        rw [HLV.out]
        exact b
      have HST := Lib.hid hst
      have hlp := HL.out.up o hbo1 hbo2
      have hMM : lvUp M o = depthM (S.1.take (k + 1)) := by
        rw [List.take_add_one, HO.out, HM.out]
        unfold depthM
        simp [List.foldl_append]
      have HLp := Lib.hid hlp
      have HMM := Lib.hid hMM
      clear hD hO1 hO2 hst hlp hMM hstore
      cases fd with
      | true =>
        have y1 : X.cell? ⟨b1, 1, none⟩ = some (.int .i64 o.left) := HO1.out.cell 1
        have y2 : X.cell? ⟨b1, 2, none⟩ = some (.int .i64 o.price) := HO1.out.cell 2
        have z1 : X.cell? ⟨b2, 1, none⟩ = some (.int .i64 lq) := HO2.out.cell 1
        have z2 : X.cell? ⟨b2, 2, none⟩ = some (.int .i64 lo) := HO2.out.cell 2
        obtain ⟨w5, hst, hm5, hM5⟩ := HST.out X HD.out.hm
        have hpr : (lvUp M o).map (fun x => Value.int .i64 x.price) = M.map (fun x => Value.int .i64 x.price) := by
          have := putL_prices M ⟨o.price, (lkV M o.price).qty + o.left, (lkV M o.price).orders + 1⟩
          rw [HFD.out, if_pos rfl] at this
          have h2 := congrArg (List.map (Value.int .i64)) this
          simpa [lvUp, List.map_map, Function.comp_def] using h2
        have hln : (lvUp M o).length = M.length := by unfold lvUp; rw [putL_len, HFD.out, if_pos rfl]
        have HPR := Lib.hid hpr
        have HLN := Lib.hid hln
        have HM5 := Lib.hid hM5
        have Hm5 := Lib.hid hm5
        clear hpr hln hm5 hM5
        go_wp2_with fail
        go_roundw
        case rel =>
          refine ⟨k + 1, lvUp M o, Ap, cp, by omega, by go_num, by rw [HLN.out], ⟨HD.out.hb.mods HM5.out (fun q hq e => by have := (H.out.lt hq).2; omega), Hm5.out, ?_, ?_⟩, HMM.out, HLp.out⟩
          · rw [HLN.out, HPR.out]
            exact own_mods HD.out.hp HM5.out (fun q hq e => by have := own_block HD.out.hp q hq; omega)
          · exact Below.mods HD.out.hB HM5.out (fun q hq => by omega) HD.out.hB.size
        case measure => simp [intOf]; omega
      | false =>
        have y2 : X.cell? ⟨b1, 2, none⟩ = some (.int .i64 o.price) := HO1.out.cell 2
        have Hn3 : Hid (M.length + 1 ≤ 1000000) := Lib.hid (by omega)
        have Hbs : Hid (w.heap.size + 1 ≤ X.heap.size) := Lib.hid (HD.out.hm.lt)
        go_upto_region 11 with (at_builtin; refine append1 rfl (.tmp 43) (.tmp 46) 136 rfl (w.heap.size + 1) 3 i0 _ 1 8 Try.underlying136 HI.out HZ0.out HZ1.out HZ2.out rfl (by decide) _ M.length _ rfl (own_mods HD.out.hp ((Mods.refl (fun _ => False) _).alloc (.cells #[.int .i64 o.price] 3)) (fun _ _ => id)) _ [.int .i64 o.price] rfl (Ob.new _ 3 [.int .i64 o.price]) rfl (by simp [Value.oneCell']) Hn3.out (by decide) (by simp; have := Hbs.out; omega) (fun v5 w5 hown5 hg5 hat5 => ?_); obtain ⟨A5, c5, rfl, -, -, -⟩ := own_shape hown5)
        have hM5 : Mods (fun q => (Value.slice Ap M.length cp).ownBlock = some q) X w5 := ((Mods.refl _ X).alloc _).grown hg5 (fun q hq => .inl hq)
        have hopb := own_block HD.out.hp
        have hopl := HOL.out
        refine cutW (fun Y => (MbAt Y mb (.slice (some ⟨g, off, none⟩) S.1.length c) v1 S ∧ MpAt Y w.heap.size M ∧ Y.ownsRow (w.heap.size + 1) 3 1 (.slice A5 (M.length + 1) c5) (M.length + 1) (M.map (fun x => Value.int .i64 x.price) ++ [.int .i64 o.price]) ∧ Below w.heap.size w Y) ∧ Ob Y b1 122 [.string o.id, .int .i64 o.left, .int .i64 o.price] ∧ Ob Y b2 104 [.int .i64 lp, .int .i64 lq, .int .i64 lo]) ⟨⟨HD.out.hb.mods hM5 (fun q hq e => by have := (H.out.lt hq).2; have := hopb q e; omega), HD.out.hm.mods hM5 (fun e => by have := hopb _ e; omega), hown5, Below.mods HD.out.hB hM5 (fun q hq => by have := hopb q hq; omega) HD.out.hB.size⟩, HO1.out.mods hM5 (fun e => by have := hopl _ e; omega), HO2.out.mods hM5 (fun e => by have := hopl _ e; omega)⟩ ?_
        clear hown5 hg5 hat5 hM5 HD HO1 HO2 y2 hopb hopl
        rintro Y ⟨⟨hD1, hD2, hD3, hD4⟩, hO1, hO2⟩
        have y1 : Y.cell? ⟨b1, 1, none⟩ = some (.int .i64 o.left) := hO1.cell 1
        have y2 : Y.cell? ⟨b1, 2, none⟩ = some (.int .i64 o.price) := hO1.cell 2
        have z1 : Y.cell? ⟨b2, 1, none⟩ = some (.int .i64 lq) := hO2.cell 1
        have z2 : Y.cell? ⟨b2, 2, none⟩ = some (.int .i64 lo) := hO2.cell 2
        obtain ⟨w6, hst, hm6, hM6⟩ := HST.out Y hD2
        have hpr : (lvUp M o).map (fun x => Value.int .i64 x.price) = M.map (fun x => Value.int .i64 x.price) ++ [.int .i64 o.price] := by
          have := putL_prices M ⟨o.price, (lkV M o.price).qty + o.left, (lkV M o.price).orders + 1⟩
          rw [HFD.out, if_neg (by decide)] at this
          have h2 := congrArg (List.map (Value.int .i64)) this
          simpa [lvUp, List.map_map, Function.comp_def] using h2
        have hln : (lvUp M o).length = M.length + 1 := by unfold lvUp; rw [putL_len, HFD.out, if_neg (by decide)]
        have HPR := Lib.hid hpr
        have HLN := Lib.hid hln
        have HM6 := Lib.hid hM6
        have Hm6 := Lib.hid hm6
        have D1 := Lib.hid hD1
        have D3 := Lib.hid hD3
        have D4 := Lib.hid hD4
        clear hpr hln hm6 hM6 hD1 hD2 hD3 hD4 hO1 hO2
        go_wp2_with fail
        go_roundw
        case rel =>
          refine ⟨k + 1, lvUp M o, A5, c5, by omega, by go_num, by rw [HLN.out], ⟨D1.out.mods HM6.out (fun q hq e => by have := (H.out.lt hq).2; omega), Hm6.out, ?_, ?_⟩, HMM.out, HLp.out⟩
          · rw [HLN.out, HPR.out]
            exact own_mods D3.out HM6.out (fun q hq e => by have := own_block D3.out q hq; omega)
          · exact Below.mods D4.out HM6.out (fun q hq => by omega) D4.out.size
        case measure => simp [intOf]; omega
    · obtain rfl : k = n := by omega
      have hMd : M = depthM S.1 := by rw [HM.out, List.take_of_length_le (by rw [HN.out]; exact Nat.le_refl _)]
      have HMd := Lib.hid hMd
      have hq1 := hD.hm
      have hq2 := hD.hp
      have hq3 := hD.hB
      have Q1 := Lib.hid hq1
      have Q2 := Lib.hid hq2
      have Q3 := Lib.hid hq3
      obtain ⟨P, hP⟩ : ∃ P, M.length = P := ⟨_, rfl⟩
      have hP9 : P ≤ 1000 := by have := hL.n; omega
      rw [hP] at Q2
      have HPl := Lib.hid hP
      have hobv := own_block hq2
      have HObv := Lib.hid hobv
      rw [hP] at HObv
      clear hM hMd hD hL hq1 hq2 hq3 hobv
      simp only [hP]
      clear hP
      go_wp2_with fail
      go_loopw [11, 65] (fun vo j wx => ∃ (q : Nat) (Ao : Option Addr) (co : Nat), q ≤ P ∧ j = .int .i64 q ∧ vo = .slice Ao q co ∧ wx.ownsRow (w.heap.size + 1) 104 3 (.slice Ao q co) q ((M.take q).flatMap lvC) ∧ MpAt wx w.heap.size M ∧ wx.ownsRow (w.heap.size + 1) 3 1 (.slice Ap P cp) P (M.map fun x => Value.int .i64 x.price) ∧ Below w.heap.size w wx ∧ ∀ b, (Value.slice Ao q co).ownBlock = some b → (Value.slice Ap P cp).ownBlock ≠ some b) (fun _ j _ => P - (intOf j).toNat)
      case atStart => exact ⟨0, none, 0, by omega, rfl, rfl, own_nil _ _ _ _, Q1.out, Q2.out, Q3.out, fun _ h => (by cases h)⟩
      case round =>
        clear Q1 Q2 Q3
        obtain ⟨q, Ao, co, hq, rfl, rfl, ho1, ho2, ho3, ho4, ho5⟩ := hrel
        by_cases hqp : q < P
        · obtain ⟨x, hx⟩ : ∃ x, M[q]? = some x := ⟨_, List.getElem?_eq_getElem (by rw [HPl.out]; exact hqp)⟩
          obtain ⟨gp, offp, hAp, -, hgp⟩ := (Rd.of_own ho3).2.2 (by omega)
          subst hAp
          have x0 : wr.cell? ⟨gp, offp + q, none⟩ = some (.int .i64 x.price) := hgp q _ (by rw [List.getElem?_map, hx]; rfl)
          have hpb := HL.out.p x (List.mem_of_getElem? hx)
          have hlook := ho2.look1 x.price (wf_i64 (by omega) (by omega))
          have hlv : lkV M x.price = x := by unfold lkV; rw [lk_nodup HL.out.d hx]; rfl
          rw [hlv] at hlook
          have HX := Lib.hid hx
          have O1 := Lib.hid ho1
          have O2 := Lib.hid ho2
          have O3 := Lib.hid ho3
          have O4 := Lib.hid ho4
          have O5 := Lib.hid ho5
          have Hn3 : Hid (q + 1 ≤ 1000000) := Lib.hid (by omega)
          have Hbs : Hid (w.heap.size + 1 ≤ wr.heap.size) := Lib.hid ho2.lt
          obtain ⟨lp, lq, lo⟩ := x
          simp only [Lv.agg] at hlook
          simp only at x0
          clear hx ho1 ho2 ho3 ho4 ho5 hgp hlv hpb
          go_wp2_with (at_builtin; refine append1 rfl (.tmp 69) (.tmp 73) 94 rfl (w.heap.size + 1) 104 j0 _ 3 24 Try.underlying94 HJ.out HJ0.out HJ1.out HJ2.out rfl (by decide) _ q _ rfl (own_mods O1.out ((Mods.refl (fun _ => False) _).alloc (.cells #[.int .i64 lp, .int .i64 lq, .int .i64 lo] 104)) (fun _ _ => id)) _ [.int .i64 lp, .int .i64 lq, .int .i64 lo] rfl (Ob.new _ 104 [.int .i64 lp, .int .i64 lq, .int .i64 lo]) rfl (by simp [Value.oneCell']) Hn3.out (by decide) (by simp; have := Hbs.out; omega) (fun v5 w5 hown5 hg5 hat5 => ?_); obtain ⟨A5, c5, rfl, -, -, -⟩ := own_shape hown5)
          have hM5 : Mods (fun b => (Value.slice Ao q co).ownBlock = some b) wr w5 := ((Mods.refl _ wr).alloc _).grown hg5 (fun b hb => .inl hb)
          have HM5 := Lib.hid hM5
          have HOw5 := Lib.hid hown5
          have Hat5 := Lib.hid hat5
          clear hown5 hg5 hat5 hM5
          go_wp2_with fail
          go_roundw
          case rel =>
            refine ⟨q + 1, A5, c5, by omega, by go_num, rfl, ?_, O2.out.mods HM5.out (fun e => by have := own_block O1.out _ e; omega), own_mods O3.out HM5.out (fun b hb hb2 => O5.out b hb2 hb), Below.mods O4.out HM5.out (fun b hb => by have := own_block O1.out b hb; omega) O4.out.size, fun b hb hb2 => ?_⟩
            · rw [List.take_add_one, HX.out, List.flatMap_append]
              exact HOw5.out
            · rcases Hat5.out with h6 | h6
              · rw [h6] at hb; exact O5.out b hb hb2
              · rw [h6] at hb
                injection hb with hb
                have := own_lt O3.out b hb2
                simp at hb
                omega
          case measure => simp [intOf]; omega
        · obtain rfl : q = P := by omega
          have O1 := Lib.hid ho1
          have O4 := Lib.hid ho4
          clear ho1 ho2 ho3 ho4 ho5
          go_wp2_with fail
          go_ret
          rw [← HMd.out, HPl.out]
          have e : M.take q = M := List.take_of_length_le (by rw [HPl.out]; exact Nat.le_refl _)
          have := O1.out
          rw [e] at this
          exact ⟨_, rfl, own_base this (by omega), O4.out⟩

set_option maxHeartbeats 3200000 in
set_option maxRecDepth 100000 in
theorem mo49_1 (w : World) (mb : Nat) (v0 v1 : Value) (S : Sd) (h : MbAt w mb v0 v1 S) (hb : ∀ x ∈ S.2, (1 ≤ x.left ∧ x.left ≤ 1099511627776) ∧ 1 ≤ x.price ∧ x.price ≤ 1099511627776) :
    Calls Try.prog 49 #[.pointer (some ⟨mb, 0, none⟩), .int .i64 2] w fun e w' => ∃ v, e = .returned v ∧ w'.ownsRow w.heap.size 104 3 v (depthM S.2).length ((depthM S.2).flatMap lvC) ∧ Below w.heap.size w w' := by
  obtain ⟨i0, hi0, hz0, hz1, hz2⟩ := info_parts info3
  have HI := Lib.hid hi0
  have HZ0 := Lib.hid hz0
  have HZ1 := Lib.hid hz1
  have HZ2 := Lib.hid hz2
  obtain ⟨j0, hi0', hz0', hz1', hz2'⟩ := info_parts info104
  have HJ := Lib.hid hi0'
  have HJ0 := Lib.hid hz0'
  have HJ1 := Lib.hid hz1'
  have HJ2 := Lib.hid hz2'
  have H := Lib.hid h
  have HBd := Lib.hid hb
  have hmb := h.ho.lt
  have hsn := h.hn
  obtain ⟨A, c, hv, -, -, -⟩ := own_shape h.h1
  subst hv
  obtain ⟨n, hn⟩ : ∃ n, S.2.length = n := ⟨_, rfl⟩
  have hn9 : n ≤ 1000 := by omega
  have HN := Lib.hid hn
  have hin : inB 2 1 2 = true := by decide
  have wr0 : IntKind.i64.wrap 0 = 0 := by rfl
  have wr1 : IntKind.i64.wrap 1 = 1 := by rfl
  clear hi0 hz0 hz1 hz2 hi0' hz0' hz1' hz2' h hb hsn
  have hmm := @run_makeMap Try.prog
  go_enter Try.func49, Try.ntmps49
  go_upto_region 4 with (go_at_call 72; refine (mo72 _ _ _ _).mono ?_; rintro e w1 ⟨rfl, rfl⟩)
  have hmade := MpAt.made w
  refine cutW (fun W => DpAt w mb v0 (.slice A S.2.length c) S W [] (.slice none 0 0)) ⟨H.out.below (Below.alloc (Below.refl _ _) (Nat.le_refl _) _), hmade, own_nil _ _ _ _, Below.alloc (Below.refl _ _) (Nat.le_refl _) _⟩ ?_
  clear hmade hin hmm
  rintro W hD
  have HD := Lib.hid hD
  have c0 : W.cell? ⟨mb, 1, none⟩ = some (.slice A n c) := by rw [← HN.out]; exact hD.hb.ho.cell 1
  clear hD
  go_wp2_with fail
  clear c0
  go_loopw [6, 30] (fun vp i wr => ∃ (k : Nat) (M : List Lv) (Ap : Option Addr) (cp : Nat), k ≤ n ∧ i = .int .i64 k ∧ vp = .slice Ap M.length cp ∧ DpAt w mb v0 (.slice A S.2.length c) S wr M (.slice Ap M.length cp) ∧ M = depthM (S.2.take k) ∧ LvB M k) (fun _ i _ => n - (intOf i).toNat)
  case atStart => exact ⟨0, [], none, 0, by omega, rfl, rfl, HD.out, rfl, ⟨by simp, by simp, by simp, by simp⟩⟩
  case round =>
    clear HD
    obtain ⟨k, M, Ap, cp, hk, rfl, rfl, hD, hM, hL⟩ := hrel
    have HM := Lib.hid hM
    have HL := Lib.hid hL
    by_cases hlt : k < n
    · obtain ⟨o, ho⟩ : ∃ o, S.2[k]? = some o := ⟨_, List.getElem?_eq_getElem (by rw [HN.out]; exact hlt)⟩
      obtain ⟨hbo1, hbo2⟩ := HBd.out o (List.mem_of_getElem? ho)
      have hrow := Rd.of_own hD.hb.h1
      obtain ⟨g, off, hA, hgl, hg⟩ := hrow.2.2 (by rw [HN.out]; omega)
      subst hA
      have x0 := hg _ _ (flat_at moC 3 moC_len S.2 k 0 o ho (by omega))
      have x1 := hg _ _ (flat_at moC 3 moC_len S.2 k 1 o ho (by omega))
      have x2 := hg _ _ (flat_at moC 3 moC_len S.2 k 2 o ho (by omega))
      rw [← Nat.add_assoc] at x0 x1 x2
      have x0 : wr.cell? ⟨g, off + k * 3, none⟩ = some (.string o.id) := x0
      have x1 : wr.cell? ⟨g, off + k * 3 + 1, none⟩ = some (.int .i64 o.left) := x1
      have x2 : wr.cell? ⟨g, off + k * 3 + 2, none⟩ = some (.int .i64 o.price) := x2
      have HO := Lib.hid ho
      have HD := Lib.hid hD
      have hlk := hL.lk o.price
      have hwf := wf_i64 (k := o.price) (by omega) (by omega)
      have hMn := hL.n
      have HOL := Lib.hid (own_lt HD.out.hp)
      clear hg hrow ho hD hL hM
      go_upto_region 8 with (fail)
      have hO := Ob.new wr 122 [.string o.id, .int .i64 o.left, .int .i64 o.price]
      have hwrs := HD.out.hB.size
      refine cutW (fun V => DpAt w mb v0 (.slice (some ⟨g, off, none⟩) S.2.length c) S V M (.slice Ap M.length cp) ∧ Ob V wr.heap.size 122 [.string o.id, .int .i64 o.left, .int .i64 o.price] ∧ w.heap.size < wr.heap.size) ⟨HD.out.gen Below.alloc_set, hO, HD.out.hm.lt⟩ ?_
      clear hO HD x0 x1 x2
      generalize wr.heap.size = b1 at *
      rintro V ⟨hD, hO, hb1⟩
      have y1 : V.cell? ⟨b1, 1, none⟩ = some (.int .i64 o.left) := hO.cell 1
      have y2 : V.cell? ⟨b1, 2, none⟩ = some (.int .i64 o.price) := hO.cell 2
      have hlook := hD.hm.look o.price hwf
      obtain ⟨lv, hlv⟩ : ∃ lv, lkV M o.price = lv := ⟨_, rfl⟩
      obtain ⟨fd, hfd⟩ : ∃ fd, (lkL M o.price).isSome = fd := ⟨_, rfl⟩
      rw [hlv, hfd] at hlook
      rw [hlv] at hlk
      have HLV := Lib.hid hlv
      have HFD := Lib.hid hfd
      have HO1 := Lib.hid hO
      have HD := Lib.hid hD
      obtain ⟨lp, lq, lo⟩ := lv
      simp only [Lv.agg] at hlook
      simp only at hlk
      clear hlv hfd hO hD
      go_upto_region 9 with (fail)
      have hO2 := Ob.new V 104 [.int .i64 lp, .int .i64 lq, .int .i64 lo]
      refine cutW (fun X => DpAt w mb v0 (.slice (some ⟨g, off, none⟩) S.2.length c) S X M (.slice Ap M.length cp) ∧ Ob X b1 122 [.string o.id, .int .i64 o.left, .int .i64 o.price] ∧ Ob X V.heap.size 104 [.int .i64 lp, .int .i64 lq, .int .i64 lo] ∧ b1 < V.heap.size) ⟨HD.out.gen Below.alloc_set, HO1.out.alloc _, hO2, HO1.out.lt⟩ ?_
      clear hO2 HD HO1 y1 y2 hlook
      generalize V.heap.size = b2 at *
      rintro X ⟨hD, hO1, hO2, hb2⟩
      have HD := Lib.hid hD
      have HO1 := Lib.hid hO1
      have HO2 := Lib.hid hO2
      have hw1 : IntKind.i64.wrap (lq + o.left) = lq + o.left := by rw [IntWalk.i64_in _ (by omega)]
      have hw2 : IntKind.i64.wrap (lo + 1) = lo + 1 := by rw [IntWalk.i64_in _ (by omega)]
      have hX : M.length < maxLen := by unfold maxLen; omega
      have hstore : ∀ X' vp' , DpAt w mb v0 (.slice (some ⟨g, off, none⟩) S.2.length c) S X' M vp' → True := fun _ _ _ => trivial
      have hst : ∀ X', MpAt X' w.heap.size M → ∃ w5, (Instr.mapUpdate 135 (.map (some w.heap.size)) (.int .i64 o.price) (.agg #[.int .i64 o.price, .int .i64 (lq + o.left), .int .i64 (lo + 1)])).run Try.prog X' = .ok () w5 ∧ MpAt w5 w.heap.size (lvUp M o) ∧ Mods (fun k => k = w.heap.size) X' w5 := fun X' hX' => by
        obtain ⟨w5, a, b, cc⟩ := hX'.store ⟨o.price, lq + o.left, lo + 1⟩ hwf hX
        refine ⟨w5, a, ?_, turned_mods cc⟩
        unfold lvUp
        rw [HLV.out]
        exact b
      have HST := Lib.hid hst
      have hlp := HL.out.up o hbo1 hbo2
      have hMM : lvUp M o = depthM (S.2.take (k + 1)) := by
        rw [List.take_add_one, HO.out, HM.out]
        unfold depthM
        simp [List.foldl_append]
      have HLp := Lib.hid hlp
      have HMM := Lib.hid hMM
      clear hD hO1 hO2 hst hlp hMM hstore
      cases fd with
      | true =>
        have y1 : X.cell? ⟨b1, 1, none⟩ = some (.int .i64 o.left) := HO1.out.cell 1
        have y2 : X.cell? ⟨b1, 2, none⟩ = some (.int .i64 o.price) := HO1.out.cell 2
        have z1 : X.cell? ⟨b2, 1, none⟩ = some (.int .i64 lq) := HO2.out.cell 1
        have z2 : X.cell? ⟨b2, 2, none⟩ = some (.int .i64 lo) := HO2.out.cell 2
        obtain ⟨w5, hst, hm5, hM5⟩ := HST.out X HD.out.hm
        have hpr : (lvUp M o).map (fun x => Value.int .i64 x.price) = M.map (fun x => Value.int .i64 x.price) := by
          have := putL_prices M ⟨o.price, (lkV M o.price).qty + o.left, (lkV M o.price).orders + 1⟩
          rw [HFD.out, if_pos rfl] at this
          have h2 := congrArg (List.map (Value.int .i64)) this
          simpa [lvUp, List.map_map, Function.comp_def] using h2
        have hln : (lvUp M o).length = M.length := by unfold lvUp; rw [putL_len, HFD.out, if_pos rfl]
        have HPR := Lib.hid hpr
        have HLN := Lib.hid hln
        have HM5 := Lib.hid hM5
        have Hm5 := Lib.hid hm5
        clear hpr hln hm5 hM5
        go_wp2_with fail
        go_roundw
        case rel =>
          refine ⟨k + 1, lvUp M o, Ap, cp, by omega, by go_num, by rw [HLN.out], ⟨HD.out.hb.mods HM5.out (fun q hq e => by have := (H.out.lt hq).2; omega), Hm5.out, ?_, ?_⟩, HMM.out, HLp.out⟩
          · rw [HLN.out, HPR.out]
            exact own_mods HD.out.hp HM5.out (fun q hq e => by have := own_block HD.out.hp q hq; omega)
          · exact Below.mods HD.out.hB HM5.out (fun q hq => by omega) HD.out.hB.size
        case measure => simp [intOf]; omega
      | false =>
        have y2 : X.cell? ⟨b1, 2, none⟩ = some (.int .i64 o.price) := HO1.out.cell 2
        have Hn3 : Hid (M.length + 1 ≤ 1000000) := Lib.hid (by omega)
        have Hbs : Hid (w.heap.size + 1 ≤ X.heap.size) := Lib.hid (HD.out.hm.lt)
        go_upto_region 11 with (at_builtin; refine append1 rfl (.tmp 43) (.tmp 46) 136 rfl (w.heap.size + 1) 3 i0 _ 1 8 Try.underlying136 HI.out HZ0.out HZ1.out HZ2.out rfl (by decide) _ M.length _ rfl (own_mods HD.out.hp ((Mods.refl (fun _ => False) _).alloc (.cells #[.int .i64 o.price] 3)) (fun _ _ => id)) _ [.int .i64 o.price] rfl (Ob.new _ 3 [.int .i64 o.price]) rfl (by simp [Value.oneCell']) Hn3.out (by decide) (by simp; have := Hbs.out; omega) (fun v5 w5 hown5 hg5 hat5 => ?_); obtain ⟨A5, c5, rfl, -, -, -⟩ := own_shape hown5)
        have hM5 : Mods (fun q => (Value.slice Ap M.length cp).ownBlock = some q) X w5 := ((Mods.refl _ X).alloc _).grown hg5 (fun q hq => .inl hq)
        have hopb := own_block HD.out.hp
        have hopl := HOL.out
        refine cutW (fun Y => (MbAt Y mb v0 (.slice (some ⟨g, off, none⟩) S.2.length c) S ∧ MpAt Y w.heap.size M ∧ Y.ownsRow (w.heap.size + 1) 3 1 (.slice A5 (M.length + 1) c5) (M.length + 1) (M.map (fun x => Value.int .i64 x.price) ++ [.int .i64 o.price]) ∧ Below w.heap.size w Y) ∧ Ob Y b1 122 [.string o.id, .int .i64 o.left, .int .i64 o.price] ∧ Ob Y b2 104 [.int .i64 lp, .int .i64 lq, .int .i64 lo]) ⟨⟨HD.out.hb.mods hM5 (fun q hq e => by have := (H.out.lt hq).2; have := hopb q e; omega), HD.out.hm.mods hM5 (fun e => by have := hopb _ e; omega), hown5, Below.mods HD.out.hB hM5 (fun q hq => by have := hopb q hq; omega) HD.out.hB.size⟩, HO1.out.mods hM5 (fun e => by have := hopl _ e; omega), HO2.out.mods hM5 (fun e => by have := hopl _ e; omega)⟩ ?_
        clear hown5 hg5 hat5 hM5 HD HO1 HO2 y2 hopb hopl
        rintro Y ⟨⟨hD1, hD2, hD3, hD4⟩, hO1, hO2⟩
        have y1 : Y.cell? ⟨b1, 1, none⟩ = some (.int .i64 o.left) := hO1.cell 1
        have y2 : Y.cell? ⟨b1, 2, none⟩ = some (.int .i64 o.price) := hO1.cell 2
        have z1 : Y.cell? ⟨b2, 1, none⟩ = some (.int .i64 lq) := hO2.cell 1
        have z2 : Y.cell? ⟨b2, 2, none⟩ = some (.int .i64 lo) := hO2.cell 2
        obtain ⟨w6, hst, hm6, hM6⟩ := HST.out Y hD2
        have hpr : (lvUp M o).map (fun x => Value.int .i64 x.price) = M.map (fun x => Value.int .i64 x.price) ++ [.int .i64 o.price] := by
          have := putL_prices M ⟨o.price, (lkV M o.price).qty + o.left, (lkV M o.price).orders + 1⟩
          rw [HFD.out, if_neg (by decide)] at this
          have h2 := congrArg (List.map (Value.int .i64)) this
          simpa [lvUp, List.map_map, Function.comp_def] using h2
        have hln : (lvUp M o).length = M.length + 1 := by unfold lvUp; rw [putL_len, HFD.out, if_neg (by decide)]
        have HPR := Lib.hid hpr
        have HLN := Lib.hid hln
        have HM6 := Lib.hid hM6
        have Hm6 := Lib.hid hm6
        have D1 := Lib.hid hD1
        have D3 := Lib.hid hD3
        have D4 := Lib.hid hD4
        clear hpr hln hm6 hM6 hD1 hD2 hD3 hD4 hO1 hO2
        go_wp2_with fail
        go_roundw
        case rel =>
          refine ⟨k + 1, lvUp M o, A5, c5, by omega, by go_num, by rw [HLN.out], ⟨D1.out.mods HM6.out (fun q hq e => by have := (H.out.lt hq).2; omega), Hm6.out, ?_, ?_⟩, HMM.out, HLp.out⟩
          · rw [HLN.out, HPR.out]
            exact own_mods D3.out HM6.out (fun q hq e => by have := own_block D3.out q hq; omega)
          · exact Below.mods D4.out HM6.out (fun q hq => by omega) D4.out.size
        case measure => simp [intOf]; omega
    · obtain rfl : k = n := by omega
      have hMd : M = depthM S.2 := by rw [HM.out, List.take_of_length_le (by rw [HN.out]; exact Nat.le_refl _)]
      have HMd := Lib.hid hMd
      have hq1 := hD.hm
      have hq2 := hD.hp
      have hq3 := hD.hB
      have Q1 := Lib.hid hq1
      have Q2 := Lib.hid hq2
      have Q3 := Lib.hid hq3
      obtain ⟨P, hP⟩ : ∃ P, M.length = P := ⟨_, rfl⟩
      have hP9 : P ≤ 1000 := by have := hL.n; omega
      rw [hP] at Q2
      have HPl := Lib.hid hP
      have hobv := own_block hq2
      have HObv := Lib.hid hobv
      rw [hP] at HObv
      clear hM hMd hD hL hq1 hq2 hq3 hobv
      simp only [hP]
      clear hP
      go_wp2_with fail
      go_loopw [11, 65] (fun vo j wx => ∃ (q : Nat) (Ao : Option Addr) (co : Nat), q ≤ P ∧ j = .int .i64 q ∧ vo = .slice Ao q co ∧ wx.ownsRow (w.heap.size + 1) 104 3 (.slice Ao q co) q ((M.take q).flatMap lvC) ∧ MpAt wx w.heap.size M ∧ wx.ownsRow (w.heap.size + 1) 3 1 (.slice Ap P cp) P (M.map fun x => Value.int .i64 x.price) ∧ Below w.heap.size w wx ∧ ∀ b, (Value.slice Ao q co).ownBlock = some b → (Value.slice Ap P cp).ownBlock ≠ some b) (fun _ j _ => P - (intOf j).toNat)
      case atStart => exact ⟨0, none, 0, by omega, rfl, rfl, own_nil _ _ _ _, Q1.out, Q2.out, Q3.out, fun _ h => (by cases h)⟩
      case round =>
        clear Q1 Q2 Q3
        obtain ⟨q, Ao, co, hq, rfl, rfl, ho1, ho2, ho3, ho4, ho5⟩ := hrel
        by_cases hqp : q < P
        · obtain ⟨x, hx⟩ : ∃ x, M[q]? = some x := ⟨_, List.getElem?_eq_getElem (by rw [HPl.out]; exact hqp)⟩
          obtain ⟨gp, offp, hAp, -, hgp⟩ := (Rd.of_own ho3).2.2 (by omega)
          subst hAp
          have x0 : wr.cell? ⟨gp, offp + q, none⟩ = some (.int .i64 x.price) := hgp q _ (by rw [List.getElem?_map, hx]; rfl)
          have hpb := HL.out.p x (List.mem_of_getElem? hx)
          have hlook := ho2.look1 x.price (wf_i64 (by omega) (by omega))
          have hlv : lkV M x.price = x := by unfold lkV; rw [lk_nodup HL.out.d hx]; rfl
          rw [hlv] at hlook
          have HX := Lib.hid hx
          have O1 := Lib.hid ho1
          have O2 := Lib.hid ho2
          have O3 := Lib.hid ho3
          have O4 := Lib.hid ho4
          have O5 := Lib.hid ho5
          have Hn3 : Hid (q + 1 ≤ 1000000) := Lib.hid (by omega)
          have Hbs : Hid (w.heap.size + 1 ≤ wr.heap.size) := Lib.hid ho2.lt
          obtain ⟨lp, lq, lo⟩ := x
          simp only [Lv.agg] at hlook
          simp only at x0
          clear hx ho1 ho2 ho3 ho4 ho5 hgp hlv hpb
          go_wp2_with (at_builtin; refine append1 rfl (.tmp 69) (.tmp 73) 94 rfl (w.heap.size + 1) 104 j0 _ 3 24 Try.underlying94 HJ.out HJ0.out HJ1.out HJ2.out rfl (by decide) _ q _ rfl (own_mods O1.out ((Mods.refl (fun _ => False) _).alloc (.cells #[.int .i64 lp, .int .i64 lq, .int .i64 lo] 104)) (fun _ _ => id)) _ [.int .i64 lp, .int .i64 lq, .int .i64 lo] rfl (Ob.new _ 104 [.int .i64 lp, .int .i64 lq, .int .i64 lo]) rfl (by simp [Value.oneCell']) Hn3.out (by decide) (by simp; have := Hbs.out; omega) (fun v5 w5 hown5 hg5 hat5 => ?_); obtain ⟨A5, c5, rfl, -, -, -⟩ := own_shape hown5)
          have hM5 : Mods (fun b => (Value.slice Ao q co).ownBlock = some b) wr w5 := ((Mods.refl _ wr).alloc _).grown hg5 (fun b hb => .inl hb)
          have HM5 := Lib.hid hM5
          have HOw5 := Lib.hid hown5
          have Hat5 := Lib.hid hat5
          clear hown5 hg5 hat5 hM5
          go_wp2_with fail
          go_roundw
          case rel =>
            refine ⟨q + 1, A5, c5, by omega, by go_num, rfl, ?_, O2.out.mods HM5.out (fun e => by have := own_block O1.out _ e; omega), own_mods O3.out HM5.out (fun b hb hb2 => O5.out b hb2 hb), Below.mods O4.out HM5.out (fun b hb => by have := own_block O1.out b hb; omega) O4.out.size, fun b hb hb2 => ?_⟩
            · rw [List.take_add_one, HX.out, List.flatMap_append]
              exact HOw5.out
            · rcases Hat5.out with h6 | h6
              · rw [h6] at hb; exact O5.out b hb hb2
              · rw [h6] at hb
                injection hb with hb
                have := own_lt O3.out b hb2
                simp at hb
                omega
          case measure => simp [intOf]; omega
        · obtain rfl : q = P := by omega
          have O1 := Lib.hid ho1
          have O4 := Lib.hid ho4
          clear ho1 ho2 ho3 ho4 ho5
          go_wp2_with fail
          go_ret
          rw [← HMd.out, HPl.out]
          have e : M.take q = M := List.take_of_length_le (by rw [HPl.out]; exact Nat.le_refl _)
          have := O1.out
          rw [e] at this
          exact ⟨_, rfl, own_base this (by omega), O4.out⟩

end Go.Proofs.Ytjhlaifflhjafaa
