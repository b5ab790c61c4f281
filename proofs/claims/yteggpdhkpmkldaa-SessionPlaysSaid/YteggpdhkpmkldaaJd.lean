import Derived.Test.YteggpdhkpmkldaaJc
namespace Go.Proofs.Yteggpdhkpmkldaa
open Go.RowKit Go.Maps

set_option maxHeartbeats 1600000 in
set_option maxRecDepth 100000 in
theorem sBust_any (w : World) (b g : Nat) (room : Int) (l : Sl) (h : SnAt w b g room l) (k : ByteArray) (hk : k.size ≤ maxLen) : Calls Try.prog 18 #[.pointer (some ⟨b, 0, none⟩), .string k] w fun e w' => SnP w b g room (sBust l k) e w' := by
  have hp : decide (0 < room) = true := by have := h.r1; simp; omega
  have Hp := Lib.hid hp
  have H := Lib.hid h
  have hc := h.ho.cell
  have hlook := h.hm.look k hk
  have hbw : b < w.heap.size := h.ho.lt
  have hgw : g < w.heap.size := h.hm.lt
  clear h hp
  generalize hP : sBust l k = P
  have HP := Lib.hid hP
  clear hP
  unfold lookV at hlook
  cases hs : look l k with
  | none =>
    rw [hs] at hlook
    simp only [Option.getD_none, Option.isSome_none, Ex.agg, zEx] at hlook
    have HP2 : Hid (P = (42, l)) := Lib.hid (by rw [← HP.out]; unfold sBust; rw [hs])
    clear hs HP
    have hO := Ob.new w 34 zEx.cells
    go_enter Try.func18, Try.ntmps18
    go_upto_region 4 with (go_at_call 52; refine (sIs_any _ b room true (hc 0) Hp.out).mono ?_; rintro e w' ⟨rfl, rfl⟩)
    refine cutW (fun V => SnAt V b g room l ∧ Ob V w.heap.size 34 [.string ⟨#[]⟩, .int .i64 0, .int .i64 0, .bool false] ∧ Mods (fun k => k = g) w V) ⟨H.out.alloc _, hO, (Mods.refl _ w).alloc _⟩ ?_
    clear hc hlook hO H
    rintro V ⟨h, hO, hB⟩
    have hc := hO.cell
    have H := Lib.hid h
    have HB := Lib.hid hB
    clear h hO hB
    go_wp2_with fail
    go_ret
    rw [HP2.out]
    exact ⟨rfl, H.out, HB.out⟩
  | some x =>
  obtain ⟨od, q, p, bu⟩ := x
  rw [hs] at hlook
  simp only [Option.getD_some, Option.isSome_some, Ex.agg] at hlook
  have hO := Ob.new w 34 [.string od, .int .i64 q, .int .i64 p, .bool bu]
  have HP1 : Hid (P = if bu = true then (41, l) else (0, put l k ⟨od, q, p, true⟩)) := Lib.hid (by rw [← HP.out]; unfold sBust; rw [hs])
  have hlp : ((put l k ⟨od, q, p, true⟩).length : Int) ≤ room := by rw [len_put, if_pos (by rw [hs]; rfl)]; exact H.out.hl
  have Hlp := Lib.hid hlp
  clear hs HP hlp
  go_enter Try.func18, Try.ntmps18
  go_upto_region 4 with (go_at_call 52; refine (sIs_any _ b room true (hc 0) Hp.out).mono ?_; rintro e w' ⟨rfl, rfl⟩)
  refine cutW (fun V => SnAt V b g room l ∧ Ob V w.heap.size 34 [.string od, .int .i64 q, .int .i64 p, .bool bu] ∧ Mods (fun k => k = g) w V) ⟨H.out.alloc _, hO, (Mods.refl _ w).alloc _⟩ ?_
  clear hc hlook hO H
  rintro V ⟨h, hO, hB⟩
  have hc := hO.cell
  have hz := hO.frozen
  have hlt := hO.lt
  have H := Lib.hid h
  have HO := Lib.hid hO
  have HB := Lib.hid hB
  clear h hO hB
  generalize hN : w.heap.size = N at *
  cases bu with
  | true =>
    have HP2 := Lib.hid (HP1.out.trans (if_pos rfl))
    clear HP1
    go_wp2_with fail
    go_ret
    rw [HP2.out]
    exact ⟨rfl, H.out, HB.out⟩
  | false =>
    have HP2 := Lib.hid (HP1.out.trans (if_neg (by decide)))
    clear HP1
    go_upto_region 9 with (fail)
    refine cutW (fun Z => SnAt Z b g room l ∧ Ob Z N 34 [.string od, .int .i64 q, .int .i64 p, .bool true] ∧ Mods (fun k => k = g) w Z) ⟨H.out.set N 3 _ (by omega) (by omega), Ob.set HO.out 3 (.bool true), HB.out.setCell (⟨N, 3, none⟩ : Addr) (.inr (by simp; omega)) _⟩ ?_
    clear hc hz hlt H HO HB
    rintro Z ⟨h, hO, hB⟩
    have hc := h.ho.cell
    have hco := hO.cell
    have h1 := h.r1
    have h2 := h.r2
    have h3 := h.hl
    obtain ⟨w2, hrun, hm2, ht⟩ := (h.drewN 1).hm.store k ⟨od, q, p, true⟩ hk (by unfold maxLen; omega)
    have hM := turned_mods ht
    have Hm2 := Lib.hid hm2
    have hho := (h.drewN 1).ho.mods hM h.ne
    have HHo := Lib.hid hho
    have HB := Lib.hid ((hB.drewN 1).trans hM)
    simp only [Ex.agg] at hrun
    have hrun : (Instr.mapUpdate 48 (.map (some g)) (.string k) (.agg #[.string od, .int .i64 q, .int .i64 p, .bool true])).run Try.prog Z.drew = .ok () w2 := hrun
    clear h hO hB hm2 hho ht hM h3
    refine wp_region_tail 6 (by kernel_rfl) (by kernel_rfl) ?_
    simp only [List.take_succ_cons, List.take_zero, List.drop_succ_cons, List.drop_zero]
    repeat (go_big_quiet_step (fail))
    refine wpQuiet_nil ?_
    go_wp2_with fail
    go_ret
    rw [HP2.out]
    exact ⟨rfl, ⟨HHo.out, Hm2.out, h1, h2, Hlp.out⟩, HB.out⟩

/-! Of one that is none. -/
def NoSn (W : World) (v : Value) : Prop := ∀ k, Calls Try.prog 52 #[v] (W.drewN k) fun e w' => e = .returned (.bool false) ∧ W.drewN k = w'
section
variable (w : World) (v : Value) (h : Calls Try.prog 52 #[v] w fun e w' => e = .returned (.bool false) ∧ w = w')
include h
set_option maxHeartbeats 400000 in
theorem nCount : Calls Try.prog 22 #[v] w fun e w' => e = .returned (.int .i64 0) ∧ w = w' := by
  go_enter Try.func22, Try.ntmps22
  go_wp2_with (go_at_call 52; refine h.mono ?_; rintro e w' ⟨rfl, rfl⟩)
  go_ret
  exact ⟨rfl, rfl⟩
set_option maxHeartbeats 400000 in
theorem nBust (k : ByteArray) : Calls Try.prog 18 #[v, .string k] w fun e w' => e = .returned (.int .i64 1) ∧ w = w' := by
  go_enter Try.func18, Try.ntmps18
  go_wp2_with (go_at_call 52; refine h.mono ?_; rintro e w' ⟨rfl, rfl⟩)
  go_ret
  exact ⟨rfl, rfl⟩
end
set_option maxHeartbeats 400000 in
theorem nPut (w : World) (v : Value) (k : ByteArray) (x : Ex) (h : ∀ cs, Calls Try.prog 52 #[v] (w.alloc (.cells cs 34)) fun e w' => e = .returned (.bool false) ∧ w.alloc (.cells cs 34) = w') : Calls Try.prog 16 #[v, .string k, x.agg] w fun e w' => e = .returned (.int .i64 1) ∧ Below w.heap.size w w' := by
  obtain ⟨od, q, p, bu⟩ := x
  show Calls Try.prog 16 #[v, .string k, .agg #[.string od, .int .i64 q, .int .i64 p, .bool bu]] w _
  go_enter Try.func16, Try.ntmps16
  go_wp2_with (go_at_call 52; refine (h _).mono ?_; rintro e w' ⟨rfl, rfl⟩)
  go_ret
  exact ⟨rfl, Below.alloc_set⟩
set_option maxHeartbeats 400000 in
set_option maxRecDepth 100000 in
theorem nGet (w : World) (v : Value) (k : ByteArray) (h : ∀ cs, Calls Try.prog 52 #[v] (w.alloc (.cells cs 34)) fun e w' => e = .returned (.bool false) ∧ w.alloc (.cells cs 34) = w') : Calls Try.prog 20 #[v, .string k] w fun e w' => e = .returned (.tuple #[.agg #[.string ⟨#[]⟩, .int .i64 0, .int .i64 0, .bool false], .bool false]) ∧ Below w.heap.size w w' := by
  go_enter Try.func20, Try.ntmps20
  go_wp2_with (go_at_call 52; refine (h _).mono ?_; rintro e w' ⟨rfl, rfl⟩)
  refine bodyPost_ret (v := .tuple #[.agg #[.string ⟨#[]⟩, .int .i64 0, .int .i64 0, .bool false], .bool false]) (by simp [results, Try.results20, go_sem]) rfl ⟨rfl, ?_⟩
  repeat (refine Below.setCell ?_ (by simp) _)
  exact Below.alloc_set

end Go.Proofs.Yteggpdhkpmkldaa
