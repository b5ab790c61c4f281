import Derived.Test.YteggpdhkpmkldaaJh
import Derived.Deep.RegionLaw
namespace Go.Proofs.Yteggpdhkpmkldaa
open Go.RowKit Go.Maps

theorem blk_of_cell {w : World} {a : Addr} {v : Value} (h : w.cell? a = some v) : a.block < w.heap.size := World.block_lt_of_cell? w a h
theorem cell_gr {w w' : World} {row : Option Nat} (hg : w.grownBy w' row) {a : Addr} {v : Value} (h : w.cell? a = some v) (hne : ∀ k, row = some k → a.block ≠ k) : w'.cell? a = some v := by
  have hb := hg.block a.block (blk_of_cell h) (fun e => hne _ e.symm rfl)
  rw [← h]
  unfold World.cell?
  rw [hb]
theorem cell_al {w : World} {a : Addr} {v : Value} (o : Obj) (h : w.cell? a = some v) : (w.alloc o).cell? a = some v := cell_gr (World.grownBy_alloc w o none) h (fun _ e => by cases e)
theorem cell_sf {w : World} {a : Addr} {v : Value} (b i : Nat) (u : Value) (h : w.cell? a = some v) (hne : a.block ≠ b) : (w.setCell ⟨b, i, none⟩ u).cell? a = some v := by
  rw [← h]
  unfold World.cell?
  rw [Below.heap_setCell _ _ _ _ (by simpa using hne)]
theorem info45 : (Try.prog.info? 45).map (fun i => (i.zero, i.size, i.bytes)) = some (some (.agg #[.string ⟨#[]⟩, .string ⟨#[]⟩, .int .i64 0, .int .i64 0, .bool false]), 5, 56) := by kernel_rfl
/-- One element is appended to a row of the call's own, as one step of a region that draws. -/
theorem step_append1 {P : Program} {ops : Array Oper} {w : World} {o : Oper} {a : Act} {K : Act → World → Prop} {Q : Exit → Act → World → Prop} {E : Prop} (hgd : o.guard = none) (s x : Operand) (t : TypeId)
    (ho : o.op = .call { callee := .builtin .append, args := #[s, x], argTypes := #[t, t] })
    (base : Nat) (e : TypeId) (i : TypeInfo) (z : Value) (size bytes : Nat) (ht : P.underlying t = some (.slice e)) (hi : P.info? e = some i) (hz : i.zero = some z)
    (hsize : i.size = size) (hby : i.bytes = bytes) (hzs : z.cells.size = size) (hsz : 0 < size)
    (v : Value) (n : Nat) (xs : List Value) (hs : a.eval s = v) (hown : w.ownsRow base e size v n xs)
    (g : Nat) (news : List Value) (hx : a.eval x = .slice (some ⟨g, 0, none⟩) 1 1) (hob : Ob w g e news) (hl : news.length = size) (h1 : ∀ u ∈ news, u.oneCell' = true)
    (h63 : n + 1 ≤ 1000000) (hb9 : bytes ≤ 1000000) (hbase : base ≤ w.heap.size)
    (h : ∀ v' w', w'.ownsRow base e size v' (n + 1) (xs ++ news) → w.grownBy w' v.ownBlock → (v'.ownBlock = v.ownBlock ∨ v'.ownBlock = some w.heap.size) → K (a.put o.dst v') w') :
    if Region.wanted o (yielded ops a.tmps) = true then Oper.wp P o a w K Q else E := by
  have hw : Region.wanted o (yielded ops a.tmps) = true := by simp [Region.wanted, hgd]
  rw [if_pos hw]
  obtain ⟨v', w', hrun, h2, h3, _, h5⟩ := run_append_own_at (P := P) w base t o.type e i z size bytes ht hi hz hsize hby hzs hsz v n xs hown ⟨g, 0, none⟩ 1 1 news (by simpa using hl)
    (fun j u hu => by rw [Go.WideShapes.add_plain, Nat.zero_add]; exact (hob.cell j).trans hu) h1 (by simp only [maxLen]; omega)
    (by have : (n + 1) * bytes ≤ 1000000 * 1000000 := Nat.mul_le_mul h63 hb9; omega) hbase
  unfold Oper.wp execOp
  simp only [ho, resolve, invoke, builtin, Sem.run_bind, Sem.run_pure, Result.andThen_ok, List.map_toArray, List.map_cons, List.map_nil, hs, hx, hrun]
  exact h v' w' h2 h3 h5

/-- A method's end. -/
def RsP (w : World) (rb : Nat) (v : Value) (room : Int) (r : Int × Sl) (e : Ending) (w' : World) : Prop :=
  e = .returned (.int .i64 r.1) ∧ ∃ v', RsAt w' rb v' room r.2 ∧ Mods (fun k => k = rb ∨ v.ownBlock = some k) w w' ∧ (v'.ownBlock = v.ownBlock ∨ ∃ k, v'.ownBlock = some k ∧ w.heap.size ≤ k)

set_option maxHeartbeats 1600000 in
set_option maxRecDepth 100000 in
theorem rsPut (w : World) (rb : Nat) (v : Value) (room : Int) (l : Sl) (h : RsAt w rb v room l) (hr9 : room ≤ 4096) (nm : ByteArray) (hnm : nm.size ≤ 200) (x : Ex) :
    Calls Try.prog 17 #[.pointer (some ⟨rb, 0, none⟩), .string nm, x.agg] w fun e w' => RsP w rb v room (sPut room l nm x) e w' := by
  obtain ⟨od, q, p, bu⟩ := x
  obtain ⟨P, hP⟩ : ∃ P, sPut room l nm ⟨od, q, p, bu⟩ = P := ⟨_, rfl⟩
  rw [hP]
  show Calls Try.prog 17 #[.pointer (some ⟨rb, 0, none⟩), .string nm, .agg #[.string od, .int .i64 q, .int .i64 p, .bool bu]] w _
  obtain ⟨i0, hi0, hz0, hz1, hz2⟩ := info_parts info45
  have HI := Lib.hid hi0
  have HZ0 := Lib.hid hz0
  have HZ1 := Lib.hid hz1
  have HZ2 := Lib.hid hz2
  clear hi0 hz0 hz1 hz2
  have H := Lib.hid h
  have HP := Lib.hid hP
  have hrl := h.ho.lt
  have Hol : Hid (∀ k, v.ownBlock = some k → k < w.heap.size) := Lib.hid (own_lt h.hown)
  have Hob : Hid (∀ k, v.ownBlock = some k → rb + 1 ≤ k) := Lib.hid (own_block h.hown)
  clear h hP
  obtain ⟨nb, hnb⟩ : ∃ nb, nameB nm = nb := ⟨_, rfl⟩
  have hval := fun W => rValid W nm (by omega)
  rw [hnb] at hval
  have HV := Lib.hid hval
  have Hnb := Lib.hid hnb
  clear hval hnb
  go_enter Try.func17, Try.ntmps17
  go_upto_region 1 with (fail)
  refine cutW (fun W => RsAt W rb v room l ∧ Ob W w.heap.size 39 [.string od, .int .i64 q, .int .i64 p, .bool bu] ∧ Below w.heap.size w W) ⟨H.out.below Below.alloc_set, Ob.new w 39 [.string od, .int .i64 q, .int .i64 p, .bool bu], Below.alloc_set⟩ ?_
  clear H
  rintro W ⟨h, hO, hB⟩
  have H := Lib.hid h
  have HO := Lib.hid hO
  have HB := Lib.hid hB
  have hsz := hO.lt
  clear h hO hB
  cases nb with
  | false =>
    have HP2 : Hid (P = (43, l)) := Lib.hid (by rw [← HP.out]; exact if_neg (by rw [Hnb.out]; decide))
    clear HP
    go_wp2_with (go_at_call 54; refine (HV.out _).mono ?_; rintro e w3 ⟨rfl, hb3⟩)
    go_ret
    rw [HP2.out]
    exact ⟨rfl, v, H.out.below hb3, Below.mods_ (HB.out.trans (hb3.mono HB.out.size)) _, .inl rfl⟩
  | true =>
  have hlk := fnd_look l nm
  go_upto_region 3 with (go_at_call 54; refine (HV.out _).mono ?_; rintro e w3 ⟨rfl, hb3⟩)
  refine cutW (fun W => RsAt W rb v room l ∧ Ob W w.heap.size 39 [.string od, .int .i64 q, .int .i64 p, .bool bu] ∧ Below w.heap.size w W) ⟨H.out.below hb3, HO.out.below hb3 hsz, HB.out.trans (hb3.mono HB.out.size)⟩ ?_
  clear H HO HB hb3 w3 hsz W
  rintro W ⟨h, hO, hB⟩
  have hfi := rsFind W rb v room l nm h
  unfold fI at hfi
  have H := Lib.hid h
  have HO := Lib.hid hO
  have HB := Lib.hid hB
  clear h hO hB
  cases hf : fnd l nm with
  | some i =>
    rw [hf] at hlk hfi
    simp only at hlk hfi
    obtain ⟨h1, y, h2, h3, h4⟩ := hlk
    have HP2 : Hid (P = (41, l)) := Lib.hid (by rw [← HP.out]; unfold sPut; rw [if_pos Hnb.out, if_pos (by rw [h3]; rfl)])
    have HF := Lib.hid hfi
    clear HP h2 h3 h4 hf hfi
    go_wp2_with (go_at_call 21; refine HF.out.mono ?_; rintro e w' ⟨rfl, rfl⟩)
    go_ret
    rw [HP2.out]
    exact ⟨rfl, v, H.out, Below.mods_ HB.out _, .inl rfl⟩
  | none =>
  rw [hf] at hlk hfi
  simp only at hlk hfi
  obtain ⟨h3, h4⟩ := hlk
  have HF := Lib.hid hfi
  have H4 := Lib.hid h4
  have H3 := Lib.hid h3
  clear hfi hf h3 h4
  have hc := H.out.ho.cell
  obtain ⟨A, c, rfl, hR, hc1, hc2⟩ := own_shape H.out.hown
  have hx9 := H.out.hx
  clear hR
  by_cases hr : room ≤ l.length
  · have HP2 : Hid (P = (40, l)) := Lib.hid (by rw [← HP.out]; unfold sPut; rw [if_pos Hnb.out, if_neg (by rw [H3.out]; decide), if_pos hr])
    have hd : decide (room ≤ (l.length : Int)) = true := by simpa using hr
    generalize hn : l.length = n at *
    have Hn := Lib.hid hn
    clear HP hr hn
    go_upto_region 5 with (go_at_call 21; refine HF.out.mono ?_; rintro e w' ⟨rfl, rfl⟩)
    go_quiet (fail)
    go_wp2_with fail
    go_ret
    rw [HP2.out]
    exact ⟨rfl, _, H.out.mods ((Mods.refl (fun _ => False) _).drewN _) id (fun _ _ => id), (Below.mods_ HB.out _).drewN _, .inl (by rw [Hn.out])⟩
  · have HP2 : Hid (P = (0, l ++ [(nm, ⟨od, q, p, false⟩)])) := Lib.hid (by rw [← HP.out]; unfold sPut; rw [if_pos Hnb.out, if_neg (by rw [H3.out]; decide), if_neg hr, H4.out])
    have hd : decide (room ≤ (l.length : Int)) = false := by simpa using hr
    have Hn3 : Hid (l.length + 1 ≤ 4096) := by show _ ≤ _; omega
    have hz := HO.out.frozen
    have hco := HO.out.cell
    have hlt := HO.out.lt
    generalize hn : l.length = n at *
    have Hn := Lib.hid hn
    clear HP hr hn
    go_upto_region 5 with (go_at_call 21; refine HF.out.mono ?_; rintro e w' ⟨rfl, rfl⟩)
    go_quiet (fail)
    go_upto_region 8 with (fail)
    refine cutW (fun Z => RsAt Z rb (.slice A n c) room l ∧ Ob Z w.heap.size 39 [.string od, .int .i64 q, .int .i64 p, .bool false] ∧ Below w.heap.size w Z) ⟨?_, Ob.set (HO.out.drewN _) 3 (.bool false), (Below.drewN HB.out _).setCell (by simp) _⟩ ?_
    · refine H.out.mods (((Mods.refl (fun k => k = w.heap.size) W).drewN _).setCell (⟨w.heap.size, 3, none⟩ : Addr) (.inl rfl) _) (by omega) (fun k hk => ?_)
      have := Hol.out k hk
      omega
    clear hc hco hz H HO HB hlt hd
    rintro Z ⟨h, hO, hB⟩
    have f1 : Z.cell? ⟨rb, 1, none⟩ = some (.slice A n c) := h.ho.cell 1
    have x0 : Z.cell? ⟨w.heap.size, 0, none⟩ = some (.string od) := hO.cell 0
    have x1 : Z.cell? ⟨w.heap.size, 1, none⟩ = some (.int .i64 q) := hO.cell 1
    have x2 : Z.cell? ⟨w.heap.size, 2, none⟩ = some (.int .i64 p) := hO.cell 2
    have x3 : Z.cell? ⟨w.heap.size, 3, none⟩ = some (.bool false) := hO.cell 3
    have hz := h.ho.frozen
    have hown := h.hown
    rw [Hn.out] at hown
    have Hown := Lib.hid hown
    have HO := Lib.hid h.ho
    have HB := Lib.hid hB
    have Hbs : Hid (∀ (o : Obj), rb + 1 ≤ ((Z.alloc o).drew).heap.size) := Lib.hid (fun o => by have := h.ho.lt; simp; omega)
    have Hn4 : Hid (n + 1 ≤ 1000000) := by show _ ≤ _; have := Hn3.out; omega
    have Hne : Hid (∀ kk, (Value.slice A n c).ownBlock = some kk → rb ≠ kk ∧ w.heap.size ≠ kk) := Lib.hid (fun kk hk' => by
      have h1 := Hob.out kk hk'
      have h2 := Hol.out kk hk'
      omega)
    clear h hO hown hB
    have f1a : ∀ o, (Z.alloc o).cell? ⟨rb, 1, none⟩ = some (.slice A n c) := fun o => cell_al o f1
    have f1b : Z.drew.cell? ⟨rb, 1, none⟩ = some (.slice A n c) := f1
    have x0b : Z.drew.cell? ⟨w.heap.size, 0, none⟩ = some (.string od) := x0
    have x0a : ∀ o, (Z.alloc o).cell? ⟨w.heap.size, 0, none⟩ = some (.string od) := fun o => cell_al o x0
    have x1b : Z.drew.cell? ⟨w.heap.size, 1, none⟩ = some (.int .i64 q) := x1
    have x1a : ∀ o, (Z.alloc o).cell? ⟨w.heap.size, 1, none⟩ = some (.int .i64 q) := fun o => cell_al o x1
    have x2b : Z.drew.cell? ⟨w.heap.size, 2, none⟩ = some (.int .i64 p) := x2
    have x2a : ∀ o, (Z.alloc o).cell? ⟨w.heap.size, 2, none⟩ = some (.int .i64 p) := fun o => cell_al o x2
    have x3b : Z.drew.cell? ⟨w.heap.size, 3, none⟩ = some (.bool false) := x3
    have x3a : ∀ o, (Z.alloc o).cell? ⟨w.heap.size, 3, none⟩ = some (.bool false) := fun o => cell_al o x3
    go_region_law
      (first
        | (refine step_append1 rfl (.tmp 29) (.tmp 33) 30 rfl (rb + 1) 45 i0 _ 5 56 Try.underlying30 HI.out HZ0.out HZ1.out HZ2.out rfl (by decide) (.slice A n c) n _ rfl (own_mods Hown.out (((Mods.refl (fun _ => False) Z).alloc (.cells #[.string nm, .string od, .int .i64 q, .int .i64 p, .bool false] 45)).drew) (fun _ _ => id)) _ [.string nm, .string od, .int .i64 q, .int .i64 p, .bool false] rfl ?_ rfl ?_ Hn4.out ?_ (Hbs.out _) (fun v5 w5 hown5 hg5 hat5 => ?_)
           · exact (Ob.new Z 45 [.string nm, .string od, .int .i64 q, .int .i64 p, .bool false]).drew
           · simp [Value.oneCell']
           · decide
           have ho5 := ((HO.out.alloc (.cells #[.string nm, .string od, .int .i64 q, .int .i64 p, .bool false] 45)).drew).grown hg5 (fun kk hk => (Hne.out kk hk).1)
           have hz5 := ho5.frozen
           obtain ⟨A5, c5, rfl, -, -, -⟩ := own_shape hown5
           have hc5 := ho5.cell))
    all_goals
      go_wp2_with fail
      go_ret
      rw [HP2.out]
      have hM5 : Mods (fun k => k = rb ∨ (Value.slice A n c).ownBlock = some k) w w5 := (((Below.mods_ HB.out _).alloc _).drew).grown hg5 (fun i hi => .inl (.inr hi))
      refine ⟨rfl, .slice A5 (n + 1) c5, ⟨ho5.set 1 _, ?_, by rw [List.length_append, Hn.out, List.length_singleton]; exact Hn3.out⟩, ?_, ?_⟩
      · rw [List.length_append, Hn.out, List.length_singleton, List.flatMap_append]
        exact own_upd hown5 ((Upd.refl rb w5).set 1 _) (by omega)
      · rw [Hn.out]
        exact hM5.setCell (⟨rb, 1, none⟩ : Addr) (.inl (.inl rfl)) _
      · rw [Hn.out]
        rcases hat5 with h | h
        · exact .inl h
        · exact .inr ⟨_, h, by have := HB.out.size; simp; omega⟩

end Go.Proofs.Yteggpdhkpmkldaa
