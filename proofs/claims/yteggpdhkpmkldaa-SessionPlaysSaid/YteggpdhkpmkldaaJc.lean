import Derived.Test.YteggpdhkpmkldaaJb
namespace Go.Proofs.Yteggpdhkpmkldaa
open Go.RowKit Go.Maps

theorem Ob.cells_ex {w : World} {b : Nat} {x : Ex} (h : Ob w b 34 x.cells) : ∀ i, w.cell? ⟨b, i, none⟩ = [Value.string x.od, .int .i64 x.q, .int .i64 x.p, .bool x.bu][i]? := h.cell
/-- Get. -/
def SGetP (w : World) (x : Ex) (r : Bool) (e : Ending) (w' : World) : Prop := e = .returned (.tuple #[x.agg, .bool r]) ∧ Below w.heap.size w w'
set_option maxHeartbeats 800000 in
set_option maxRecDepth 100000 in
theorem sGet_any (w : World) (b g : Nat) (room : Int) (l : Sl) (h : SnAt w b g room l) (k : ByteArray) (hk : k.size ≤ maxLen) : Calls Try.prog 20 #[.pointer (some ⟨b, 0, none⟩), .string k] w fun e w' => SGetP w (lookV l k) (look l k).isSome e w' := by
  have hp : decide (0 < room) = true := by have := h.r1; simp; omega
  have Hp := Lib.hid hp
  have H := Lib.hid h
  clear h hp
  generalize hx : lookV l k = x
  generalize hr : (look l k).isSome = r
  have Hx := Lib.hid hx
  have Hr := Lib.hid hr
  clear hx hr
  go_enter Try.func20, Try.ntmps20
  go_upto_region 1 with (fail)
  refine cutW (fun W => SnAt W b g room l ∧ Ob W w.heap.size 34 zEx.cells ∧ Below w.heap.size w W) ⟨H.out.alloc _, Ob.new w 34 zEx.cells, Below.alloc_set⟩ ?_
  clear H
  rintro W ⟨h, hO, hB⟩
  have hc := h.ho.cell
  have hlook := h.hm.look k hk
  have HO := Lib.hid hO
  have HB := Lib.hid hB
  have hsz := hO.lt
  clear h hO hB
  rw [Hx.out, Hr.out] at hlook
  clear Hx Hr
  obtain ⟨od, q, p, bu⟩ := x
  simp only [Ex.agg] at hlook
  have hO4 := Ob.new W 34 [.string od, .int .i64 q, .int .i64 p, .bool bu]
  go_upto_region 4 with (go_at_call 52; refine (sIs_any _ b room true (hc 0) Hp.out).mono ?_; rintro e w' ⟨rfl, rfl⟩)
  refine cutW (fun V => Ob V w.heap.size 34 zEx.cells ∧ Ob V W.heap.size 34 [.string od, .int .i64 q, .int .i64 p, .bool bu] ∧ Below w.heap.size w V) ⟨HO.out.alloc _, hO4, HB.out.alloc HB.out.size _⟩ ?_
  clear hc hlook HO HB hO4
  rintro V ⟨hO, hO2, hB⟩
  have hc := hO.cells_ex
  have hz := hO.frozen
  have hl := hO.lt
  have hc2 := hO2.cell
  have HB := Lib.hid hB
  have HO := Lib.hid hO
  clear hO2 hB hO
  generalize W.heap.size = N2 at *
  go_wp2_with fail
  refine bodyPost_ret (v := .tuple #[.agg #[.string od, .int .i64 q, .int .i64 p, .bool bu], .bool r]) (by simp [results, Try.results20, go_sem, hc]) rfl ⟨rfl, ?_⟩
  repeat (refine Below.setCell ?_ (by simp) _)
  exact HB.out

theorem turned_mods {w w' : World} {g : Nat} (h : w.mapTurned w' g) : Mods (fun k => k = g) w w' := (Mods.refl _ w).grown h.grown (fun k hk => by injection hk with hk; exact .inl hk.symm)

set_option maxHeartbeats 800000 in
set_option maxRecDepth 100000 in
theorem sPut_any (w : World) (b g : Nat) (room : Int) (l : Sl) (h : SnAt w b g room l) (k : ByteArray) (hk : k.size ≤ maxLen) (x : Ex) : Calls Try.prog 16 #[.pointer (some ⟨b, 0, none⟩), .string k, x.agg] w fun e w' => SnP w b g room (sPut room l k x) e w' := by
  have hp : decide (0 < room) = true := by have := h.r1; simp; omega
  have Hp := Lib.hid hp
  have H := Lib.hid h
  clear h hp
  obtain ⟨od, q, p, bu⟩ := x
  by_cases hn : nameB k = true
  rotate_left
  · have hs : sPut room l k ⟨od, q, p, bu⟩ = (43, l) := if_neg hn
    have hn' : nameB k = false := by simpa using hn
    have Hs := Lib.hid hs
    have Hn := Lib.hid hn'
    have hc := (H.out.alloc (.cells #[.string od, .int .i64 q, .int .i64 p, .bool bu] 34)).ho.cell
    clear hs hn hn'
    show Calls Try.prog 16 #[.pointer (some ⟨b, 0, none⟩), .string k, .agg #[.string od, .int .i64 q, .int .i64 p, .bool bu]] w _
    go_enter Try.func16, Try.ntmps16
    go_wp2_with (first | (go_at_call 52; refine (sIs_any _ b room true (hc 0) Hp.out).mono ?_; rintro e w' ⟨rfl, rfl⟩) | (go_at_call 53; refine (kValid _ k).mono ?_; rw [Hn.out]; rintro e w3 ⟨rfl, hb3⟩))
    go_ret
    rw [Hs.out]
    exact ⟨rfl, (H.out.alloc _).below hb3, ((Mods.refl _ w).alloc _).trans (Below.mods_ hb3 _)⟩
  have Hn := Lib.hid hn
  clear hn
  show Calls Try.prog 16 #[.pointer (some ⟨b, 0, none⟩), .string k, .agg #[.string od, .int .i64 q, .int .i64 p, .bool bu]] w _
  generalize hP : sPut room l k ⟨od, q, p, bu⟩ = P
  have HP := Lib.hid hP
  clear hP
  go_enter Try.func16, Try.ntmps16
  go_upto_region 1 with (fail)
  refine cutW (fun W => SnAt W b g room l ∧ Ob W w.heap.size 34 [.string od, .int .i64 q, .int .i64 p, .bool bu] ∧ Mods (fun k => k = g) w W) ⟨H.out.alloc _, Ob.new w 34 [.string od, .int .i64 q, .int .i64 p, .bool bu], (Mods.refl _ w).alloc _⟩ ?_
  have hbw : b < w.heap.size := H.out.ho.lt
  have hgw : g < w.heap.size := H.out.hm.lt
  clear H
  rintro W ⟨h, hO, hB⟩
  have hc := h.ho.cell
  have H := Lib.hid h
  have HO := Lib.hid hO
  have HB := Lib.hid hB
  have hsz := hO.lt
  clear h hO hB
  generalize hN : w.heap.size = N at *
  go_upto_region 5 with (first | (go_at_call 52; refine (sIs_any _ b room true (hc 0) Hp.out).mono ?_; rintro e w' ⟨rfl, rfl⟩) | (go_at_call 53; refine (kValid _ k).mono ?_; rw [Hn.out]; rintro e w3 ⟨rfl, hb3⟩))
  refine cutW (fun V => SnAt V b g room l ∧ Ob V N 34 [.string od, .int .i64 q, .int .i64 p, .bool bu] ∧ Mods (fun k => k = g) w V) ⟨H.out.below hb3, HO.out.below hb3 hsz, HB.out.trans (Below.mods_ hb3 _)⟩ ?_
  clear hc H HO HB hb3 w3 hsz
  rintro V ⟨h, hO, hB⟩
  have hc := h.ho.cell
  have hlook := h.hm.look k hk
  have H := Lib.hid h
  have HO := Lib.hid hO
  have HB := Lib.hid hB
  clear h hO hB
  generalize lookV l k = y at *
  obtain ⟨yo, yq, yp, yb⟩ := y
  simp only [Ex.agg] at hlook
  have hO4 := Ob.new V 34 [.string yo, .int .i64 yq, .int .i64 yp, .bool yb]
  cases hs : (look l k).isSome with
  | true =>
    rw [hs] at hlook
    have HP2 : Hid (P = (41, l)) := Lib.hid (by rw [← HP.out]; unfold sPut; rw [if_pos Hn.out, if_pos hs])
    clear hs HP
    go_wp2_with fail
    go_ret
    rw [HP2.out]
    exact ⟨rfl, H.out.alloc _, HB.out.alloc _⟩
  | false =>
  rw [hs] at hlook
  by_cases hr : room ≤ l.length
  · have HP2 : Hid (P = (40, l)) := Lib.hid (by rw [← HP.out]; unfold sPut; rw [if_pos Hn.out, if_neg (by rw [hs]; decide), if_pos hr])
    have hd : decide (room ≤ (l.length : Int)) = true := by simpa using hr
    clear hs HP hr
    go_upto_region 8 with (fail)
    refine cutW (fun Y => SnAt Y b g room l ∧ Mods (fun k => k = g) w Y) ⟨H.out.alloc _, HB.out.alloc _⟩ ?_
    clear hc hlook H HO HB hO4
    rintro Y ⟨h, hB⟩
    have hc := h.ho.cell
    have hlen := fun k ty => (h.drewN k).hm.len ty
    have H := Lib.hid h
    have HB := Lib.hid hB
    clear h hB
    go_quiet (fail)
    go_wp2_with fail
    go_ret
    rw [HP2.out]
    exact ⟨rfl, H.out.drewN _, HB.out.drewN _⟩
  · have HP2 : Hid (P = (0, put l k ⟨od, q, p, false⟩)) := Lib.hid (by rw [← HP.out]; unfold sPut; rw [if_pos Hn.out, if_neg (by rw [hs]; decide), if_neg hr])
    have hd : decide (room ≤ (l.length : Int)) = false := by simpa using hr
    have hlp : ((put l k ⟨od, q, p, false⟩).length : Int) ≤ room := by rw [len_put, if_neg (by rw [hs]; decide)]; omega
    have Hlp := Lib.hid hlp
    clear hs HP hr hlp
    go_upto_region 8 with (fail)
    refine cutW (fun Y => SnAt Y b g room l ∧ Ob Y N 34 [.string od, .int .i64 q, .int .i64 p, .bool bu] ∧ Mods (fun k => k = g) w Y) ⟨H.out.alloc _, HO.out.alloc _, HB.out.alloc _⟩ ?_
    clear hc hlook H HO HB hO4
    rintro Y ⟨h, hO, hB⟩
    have hc := h.ho.cell
    have hlen := fun k ty => (h.drewN k).hm.len ty
    have H := Lib.hid h
    have HB := Lib.hid hB
    have HO := Lib.hid hO
    have hz := hO.frozen
    have hlt := hO.lt
    have hco := hO.cell
    clear h hB hO
    go_quiet (fail)
    go_upto_region 11 with (fail)
    refine cutW (fun Z => SnAt Z b g room l ∧ Ob Z N 34 [.string od, .int .i64 q, .int .i64 p, .bool false] ∧ Mods (fun k => k = g) w Z) ⟨(H.out.drewN _).set N 3 _ (by omega) (by omega), Ob.set (HO.out.drewN _) 3 (.bool false), (HB.out.drewN _).setCell (⟨N, 3, none⟩ : Addr) (.inr (by simp; omega)) _⟩ ?_
    clear hc hlen H HO HB hz hlt hco hd
    rintro Z ⟨h, hO, hB⟩
    have hc := h.ho.cell
    have hco := hO.cell
    have h1 := h.r1
    have h2 := h.r2
    have h3 := h.hl
    obtain ⟨w2, hrun, hm2, ht⟩ := (h.drewN 1).hm.store k ⟨od, q, p, false⟩ hk (by unfold maxLen; omega)
    have hM := turned_mods ht
    have Hm2 := Lib.hid hm2
    have hho := (h.drewN 1).ho.mods hM h.ne
    have HHo := Lib.hid hho
    have HB := Lib.hid ((hB.drewN 1).trans hM)
    simp only [Ex.agg] at hrun
    have hrun : (Instr.mapUpdate 48 (.map (some g)) (.string k) (.agg #[.string od, .int .i64 q, .int .i64 p, .bool false])).run Try.prog Z.drew = .ok () w2 := hrun
    clear h hO hB hm2 hho ht hM h3
    refine wp_region_tail 6 (by kernel_rfl) (by kernel_rfl) ?_
    simp only [List.take_succ_cons, List.take_zero, List.drop_succ_cons, List.drop_zero]
    repeat (go_big_quiet_step (fail))
    refine wpQuiet_nil ?_
    go_wp2_with fail
    go_ret
    rw [HP2.out]
    exact ⟨rfl, ⟨HHo.out, Hm2.out, h1, h2, Hlp.out⟩, HB.out⟩

end Go.Proofs.Yteggpdhkpmkldaa
