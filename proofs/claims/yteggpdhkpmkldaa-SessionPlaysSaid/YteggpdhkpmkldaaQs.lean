import Derived.Test.YteggpdhkpmkldaaQr
namespace Go.Proofs.Yteggpdhkpmkldaa
open Go.RowKit

theorem info128 : (Try.prog.info? 128).map (fun i => (i.zero, i.size, i.bytes)) = some (some (.agg #[.int .i64 0, .int .i64 0, .string ⟨#[]⟩, .string ⟨#[]⟩, .int .i64 0, .int .i64 0, .int .i64 0]), 7, 72) := by kernel_rfl
/-- The document's session. -/
structure RfSe (w : World) (fb : Nat) (v : Value) (R out : Nat) (tk fl : Int) (L : List Od) (down : Bool) : Prop where
  ho : Ob w fb 97 [.int .i64 R, .int .i64 out, .int .i64 tk, .int .i64 fl, v, .bool down]
  hown : w.ownsRow (fb + 1) 128 7 v L.length (L.flatMap Od.cells)
theorem RfSe.mods {w w' : World} {fb : Nat} {v : Value} {R out : Nat} {tk fl : Int} {L : List Od} {down : Bool} {S : Nat → Prop} (h : RfSe w fb v R out tk fl L down) (hm : Mods S w w') (h1 : ¬ S fb) (h2 : ∀ k, v.ownBlock = some k → ¬ S k) : RfSe w' fb v R out tk fl L down :=
  ⟨h.ho.mods hm h1, own_mods h.hown hm h2⟩
theorem RfSe.below {w w' : World} {fb : Nat} {v : Value} {R out : Nat} {tk fl : Int} {L : List Od} {down : Bool} (h : RfSe w fb v R out tk fl L down) (hb : Below w.heap.size w w') : RfSe w' fb v R out tk fl L down :=
  h.mods (Below.mods_ hb (fun _ => False)) id (fun _ _ => id)
theorem RfSe.setS {w : World} {fb : Nat} {v : Value} {R out R' out' : Nat} {tk fl tk' fl' : Int} {L : List Od} {down down' : Bool} (h : RfSe w fb v R out tk fl L down) (i : Nat) (u : Value)
    (he : [Value.int .i64 R, .int .i64 out, .int .i64 tk, .int .i64 fl, v, .bool down].set i u = [Value.int .i64 R', .int .i64 out', .int .i64 tk', .int .i64 fl', v, .bool down']) : RfSe (w.setCell ⟨fb, i, none⟩ u) fb v R' out' tk' fl' L down' :=
  ⟨by have := h.ho.set i u; rwa [he] at this, own_upd h.hown ((Upd.refl fb w).set i u) (by omega)⟩

/-- What Send answers, and what was sent behind it. -/
def sndR (R out : Nat) (L : List Od) (down : Bool) (o : Od) : (Int × Int) × List Od :=
  if roB { o with sq := 1 } = true then (if down = true then ((0, 222), L) else if R ≤ L.length - out then ((0, 40), L) else (((L.length : Int) + 1, 0), L ++ [{ o with sq := (L.length : Int) + 1 }])) else ((0, 2), L)

theorem seSend' (w : World) (sb rb g R first : Nat) (L arr : List Od) (out : Nat) (taken faults : Int) (down : Bool) (h : SsAt w sb rb g R first (L.drop out) arr L.length taken faults down) (hs9 : L.length ≤ 1000000) (ho : out ≤ L.length) (o : Od) :
    Calls Try.prog 40 #[.pointer (some ⟨sb, 0, none⟩), o.agg] w fun e w' => e = .returned (.tuple #[.int .i64 (sndR R out L down o).1.1, .int .i64 (sndR R out L down o).1.2]) ∧ ∃ arr', SsAt w' sb rb g R first ((sndR R out L down o).2.drop out) arr' (sndR R out L down o).2.length taken faults down ∧ Mods (fun k => k = sb ∨ k = rb ∨ k = g) w w' := by
  refine (seSend w sb rb g R first _ arr L.length taken faults down h (by omega) (by omega) o).mono ?_
  have hx := h.hro.hx
  rintro e w4 (⟨rfl, hr, h4, hb4⟩ | ⟨rfl, hr, hd, h4, hb4⟩ | ⟨rfl, hr, hd, hx, h4, hb4⟩ | ⟨rfl, hr, hd, hx, arr', h4, hm4⟩)
  · have e1 : sndR R out L down o = ((0, 2), L) := by unfold sndR; rw [if_neg (by rw [hr]; decide)]
    rw [e1]
    exact ⟨rfl, arr, h4, Below.mods_ hb4 _⟩
  · have e1 : sndR R out L down o = ((0, 222), L) := by unfold sndR; rw [if_pos hr, if_pos hd]
    rw [e1]
    exact ⟨rfl, arr, h4, Below.mods_ hb4 _⟩
  · have e1 : sndR R out L down o = ((0, 40), L) := by unfold sndR; rw [if_pos hr, if_neg (by rw [hd]; decide), if_pos (by simp at hx; omega)]
    rw [e1]
    exact ⟨rfl, arr, h4, Below.mods_ hb4 _⟩
  · have e1 : sndR R out L down o = (((L.length : Int) + 1, 0), L ++ [{ o with sq := (L.length : Int) + 1 }]) := by unfold sndR; rw [if_pos hr, if_neg (by rw [hd]; decide), if_neg (by simp at hx; omega)]
    rw [e1]
    refine ⟨rfl, arr', ?_, hm4⟩
    simp only
    rw [List.drop_append_of_le_length ho, List.length_append, List.length_singleton]
    exact h4

set_option maxHeartbeats 3200000 in
set_option maxRecDepth 100000 in
theorem rfSend (w : World) (fb : Nat) (v : Value) (R out : Nat) (tk fl : Int) (L : List Od) (down : Bool) (h : RfSe w fb v R out tk fl L down) (hs9 : L.length ≤ 1000) (hR : R ≤ 1024) (ho : out ≤ L.length) (o : Od) (hxi : o.id.size ≤ 70368744177664) (hxy : o.sy.size ≤ 70368744177664) :
    Calls Try.prog 73 #[.pointer (some ⟨fb, 0, none⟩), o.agg] w fun e w' => e = .returned (.tuple #[.int .i64 (sndR R out L down o).1.1, .int .i64 (sndR R out L down o).1.2]) ∧ ∃ v', RfSe w' fb v' R out tk fl (sndR R out L down o).2 down ∧ Mods (fun k => k = fb ∨ v.ownBlock = some k) w w' := by
  obtain ⟨P, hP⟩ : ∃ P, sndR R out L down o = P := ⟨_, rfl⟩
  rw [hP]
  obtain ⟨ok, os, oi, oy, od, oq, op⟩ := o
  show Calls Try.prog 73 #[.pointer (some ⟨fb, 0, none⟩), .agg #[.int .i64 ok, .int .i64 os, .string oi, .string oy, .int .i64 od, .int .i64 oq, .int .i64 op]] w _
  obtain ⟨i0, hi0, hz0, hz1, hz2⟩ := info_parts info128
  have HI := Lib.hid hi0
  have HZ0 := Lib.hid hz0
  have HZ1 := Lib.hid hz1
  have HZ2 := Lib.hid hz2
  clear hi0 hz0 hz1 hz2
  obtain ⟨B, hB⟩ : ∃ B, roB ⟨ok, 1, oi, oy, od, oq, op⟩ = B := ⟨_, rfl⟩
  have hrr := fun W => rfRight W ⟨ok, 1, oi, oy, od, oq, op⟩ hxi hxy
  rw [hB] at hrr
  have HRR : Hid (∀ W, Calls Try.prog 83 #[.agg #[.int .i64 ok, .int .i64 1, .string oi, .string oy, .int .i64 od, .int .i64 oq, .int .i64 op]] W fun e w' => e = .returned (.bool B) ∧ Below W.heap.size W w') := Lib.hid hrr
  have HBq := Lib.hid hB
  have HP := Lib.hid hP
  have H := Lib.hid h
  have hfl := h.ho.lt
  have Hol : Hid (∀ k, v.ownBlock = some k → k < w.heap.size) := Lib.hid (own_lt h.hown)
  have Hob : Hid (∀ k, v.ownBlock = some k → fb + 1 ≤ k) := Lib.hid (own_block h.hown)
  clear hB hrr h hP
  have hN := Ob.new w 128 [.int .i64 ok, .int .i64 os, .string oi, .string oy, .int .i64 od, .int .i64 oq, .int .i64 op]
  have hz := hN.frozen
  have hcn := hN.cell
  clear hN
  go_enter Try.func73, Try.ntmps73
  go_upto_region 2 with (fail)
  refine cutW (fun W => RfSe W fb v R out tk fl L down ∧ Ob W w.heap.size 128 [.int .i64 ok, .int .i64 1, .string oi, .string oy, .int .i64 od, .int .i64 oq, .int .i64 op] ∧ Below w.heap.size w W) ⟨H.out.below Below.alloc_set, Ob.new w 128 [.int .i64 ok, .int .i64 1, .string oi, .string oy, .int .i64 od, .int .i64 oq, .int .i64 op], Below.alloc_set⟩ ?_
  clear H hz hcn
  rintro W ⟨h, hN, hB⟩
  have hcn := hN.cell
  have H := Lib.hid h
  have HN := Lib.hid hN
  have HB := Lib.hid hB
  clear h hN hB
  cases B with
  | false =>
    have HP2 : Hid (P = ((0, 2), L)) := Lib.hid (by rw [← HP.out]; unfold sndR; rw [if_neg (by rw [HBq.out]; decide)])
    go_wp2_with (go_at_call 83; refine (HRR.out _).mono ?_; rintro e w3 ⟨rfl, hb3⟩)
    go_ret2
    rw [HP2.out]
    exact ⟨rfl, v, H.out.below hb3, Below.mods_ (HB.out.trans (hb3.mono HB.out.size)) _⟩
  | true =>
  go_upto_region 4 with (go_at_call 83; refine (HRR.out _).mono ?_; rintro e w3 ⟨rfl, hb3⟩)
  refine cutW (fun W => RfSe W fb v R out tk fl L down ∧ Ob W w.heap.size 128 [.int .i64 ok, .int .i64 1, .string oi, .string oy, .int .i64 od, .int .i64 oq, .int .i64 op] ∧ Below w.heap.size w W) ⟨H.out.below hb3, HN.out.below hb3 HN.out.lt, HB.out.trans (hb3.mono HB.out.size)⟩ ?_
  clear H HN HB hcn hb3
  rintro W4 ⟨h, hN, hB⟩
  have hc := h.ho.cell
  have H := Lib.hid h
  have HN := Lib.hid hN
  have HB := Lib.hid hB
  clear h hN hB
  cases down with
  | true =>
    have HP2 : Hid (P = ((0, 222), L)) := Lib.hid (by rw [← HP.out]; unfold sndR; rw [if_pos HBq.out, if_pos rfl])
    go_wp2_with fail
    go_ret2
    rw [HP2.out]
    exact ⟨rfl, v, H.out, Below.mods_ HB.out _⟩
  | false =>
  obtain ⟨A, c, rfl, -, hc1, hc2⟩ := own_shape H.out.hown
  generalize hn : L.length = n at *
  have hq : IntKind.i64.wrap ((n : Int) - out) = ((n - out : Nat) : Int) := by rw [IntWalk.i64_in _ (by omega)]; omega
  have hw1 : IntKind.i64.wrap ((n : Int) + 1) = (n : Int) + 1 := by rw [IntWalk.i64_in _ (by omega)]
  by_cases hfull : R ≤ n - out
  · have HP2 : Hid (P = ((0, 40), L)) := Lib.hid (by rw [← HP.out]; unfold sndR; rw [if_pos HBq.out, if_neg (by decide), if_pos (by rw [hn]; exact hfull)])
    have Hn := Lib.hid hn
    generalize n - out = q at *
    have hd : decide (R ≤ q) = true := by simpa using hfull
    have hd2 : decide ((R : Int) ≤ (q : Int)) = true := by simp; omega
    clear HP hn hfull
    go_upto_region 6 with (fail)
    go_quiet (fail)
    go_wp2_with fail
    go_ret2
    rw [HP2.out]
    exact ⟨rfl, _, by rw [← Hn.out] at H; exact H.out.mods ((Mods.refl (fun _ => False) _).drewN _) id (fun _ _ => id), (Below.mods_ HB.out _).drewN _⟩
  · have HP2 : Hid (P = (((L.length : Int) + 1, 0), L ++ [⟨ok, (L.length : Int) + 1, oi, oy, od, oq, op⟩])) := Lib.hid (by rw [← HP.out]; unfold sndR; rw [if_pos HBq.out, if_neg (by decide), if_neg (by rw [hn]; exact hfull)])
    have Hn := Lib.hid hn
    generalize n - out = q at *
    have hd : decide (R ≤ q) = false := by simpa using hfull
    have hd2 : decide ((R : Int) ≤ (q : Int)) = false := by simp; omega
    have hz := HN.out.frozen
    have hlt := HN.out.lt
    have hcn := HN.out.cell
    clear HP hn hfull
    go_upto_region 6 with (fail)
    go_quiet (fail)
    go_upto_region 9 with (fail)
    refine cutW (fun Z => RfSe Z fb (.slice A n c) R out tk fl L false ∧ Ob Z w.heap.size 128 [.int .i64 ok, .int .i64 ((n : Int) + 1), .string oi, .string oy, .int .i64 od, .int .i64 oq, .int .i64 op] ∧ Below w.heap.size w Z) ⟨?_, Ob.set (HN.out.drewN _) 1 (.int .i64 ((n : Int) + 1)), (Below.drewN HB.out _).setCell (by simp) _⟩ ?_
    · refine H.out.mods (((Mods.refl (fun k => k = w.heap.size) W4).drewN _).setCell (⟨w.heap.size, 1, none⟩ : Addr) (.inl rfl) _) (by omega) (fun k hk => ?_)
      have := Hol.out k hk
      omega
    clear hc hz H HN HB hlt hd hd2 hq hcn
    rintro Z ⟨h, hN, hB⟩
    have f1 : Z.cell? ⟨fb, 4, none⟩ = some (.slice A n c) := h.ho.cell 4
    have x0 : Z.cell? ⟨w.heap.size, 0, none⟩ = some (.int .i64 ok) := hN.cell 0
    have x1 : Z.cell? ⟨w.heap.size, 1, none⟩ = some (.int .i64 ((n : Int) + 1)) := hN.cell 1
    have x2 : Z.cell? ⟨w.heap.size, 2, none⟩ = some (.string oi) := hN.cell 2
    have x3 : Z.cell? ⟨w.heap.size, 3, none⟩ = some (.string oy) := hN.cell 3
    have x4 : Z.cell? ⟨w.heap.size, 4, none⟩ = some (.int .i64 od) := hN.cell 4
    have x5 : Z.cell? ⟨w.heap.size, 5, none⟩ = some (.int .i64 oq) := hN.cell 5
    have x6 : Z.cell? ⟨w.heap.size, 6, none⟩ = some (.int .i64 op) := hN.cell 6
    have hz := h.ho.frozen
    have hown := h.hown
    rw [Hn.out] at hown
    have Hown := Lib.hid hown
    have HO := Lib.hid h.ho
    have HN := Lib.hid hN
    have HB := Lib.hid hB
    have Hbs : Hid (∀ (o : Obj), fb + 1 ≤ ((Z.alloc o).drew).heap.size) := Lib.hid (fun o => by have := h.ho.lt; simp; omega)
    have Hn4 : Hid (n + 1 ≤ 1000000) := by show _ ≤ _; omega
    have Hne : Hid (∀ kk, (Value.slice A n c).ownBlock = some kk → fb ≠ kk ∧ w.heap.size ≠ kk) := Lib.hid (fun kk hk' => by
      have h1 := Hob.out kk hk'
      have h2 := Hol.out kk hk'
      omega)
    clear h hown hN hB
    have f1a : ∀ o, (Z.alloc o).cell? ⟨fb, 4, none⟩ = some (.slice A n c) := fun o => cell_al o f1
    have f1b : Z.drew.cell? ⟨fb, 4, none⟩ = some (.slice A n c) := f1
    have x0b : Z.drew.cell? ⟨w.heap.size, 0, none⟩ = some (.int .i64 ok) := x0
    have x0a : ∀ o, (Z.alloc o).cell? ⟨w.heap.size, 0, none⟩ = some (.int .i64 ok) := fun o => cell_al o x0
    have x1b : Z.drew.cell? ⟨w.heap.size, 1, none⟩ = some (.int .i64 ((n : Int) + 1)) := x1
    have x1a : ∀ o, (Z.alloc o).cell? ⟨w.heap.size, 1, none⟩ = some (.int .i64 ((n : Int) + 1)) := fun o => cell_al o x1
    have x2b : Z.drew.cell? ⟨w.heap.size, 2, none⟩ = some (.string oi) := x2
    have x2a : ∀ o, (Z.alloc o).cell? ⟨w.heap.size, 2, none⟩ = some (.string oi) := fun o => cell_al o x2
    have x3b : Z.drew.cell? ⟨w.heap.size, 3, none⟩ = some (.string oy) := x3
    have x3a : ∀ o, (Z.alloc o).cell? ⟨w.heap.size, 3, none⟩ = some (.string oy) := fun o => cell_al o x3
    have x4b : Z.drew.cell? ⟨w.heap.size, 4, none⟩ = some (.int .i64 od) := x4
    have x4a : ∀ o, (Z.alloc o).cell? ⟨w.heap.size, 4, none⟩ = some (.int .i64 od) := fun o => cell_al o x4
    have x5b : Z.drew.cell? ⟨w.heap.size, 5, none⟩ = some (.int .i64 oq) := x5
    have x5a : ∀ o, (Z.alloc o).cell? ⟨w.heap.size, 5, none⟩ = some (.int .i64 oq) := fun o => cell_al o x5
    have x6b : Z.drew.cell? ⟨w.heap.size, 6, none⟩ = some (.int .i64 op) := x6
    have x6a : ∀ o, (Z.alloc o).cell? ⟨w.heap.size, 6, none⟩ = some (.int .i64 op) := fun o => cell_al o x6
    go_region_law
      (first
        | (refine step_append1 rfl (.tmp 40) (.tmp 42) 95 rfl (fb + 1) 128 i0 _ 7 72 Try.underlying95 HI.out HZ0.out HZ1.out HZ2.out rfl (by decide) (.slice A n c) n _ rfl (own_mods Hown.out (((Mods.refl (fun _ => False) Z).alloc (.cells #[.int .i64 ok, .int .i64 ((n : Int) + 1), .string oi, .string oy, .int .i64 od, .int .i64 oq, .int .i64 op] 128)).drew) (fun _ _ => id)) _ [.int .i64 ok, .int .i64 ((n : Int) + 1), .string oi, .string oy, .int .i64 od, .int .i64 oq, .int .i64 op] rfl ?_ rfl ?_ Hn4.out ?_ (Hbs.out _) (fun v5 w5 hown5 hg5 hat5 => ?_)
           · exact (Ob.new Z 128 [.int .i64 ok, .int .i64 ((n : Int) + 1), .string oi, .string oy, .int .i64 od, .int .i64 oq, .int .i64 op]).drew
           · simp [Value.oneCell']
           · decide
           have ho5 := ((HO.out.alloc (.cells #[.int .i64 ok, .int .i64 ((n : Int) + 1), .string oi, .string oy, .int .i64 od, .int .i64 oq, .int .i64 op] 128)).drew).grown hg5 (fun kk hk => (Hne.out kk hk).1)
           have hz5 := ho5.frozen
           have hl5 := ho5.lt
           obtain ⟨A5, c5, rfl, -, -, -⟩ := own_shape hown5
           have hc5 := ho5.cell))
    all_goals
      have hn5 := (((HN.out.alloc (.cells #[.int .i64 ok, .int .i64 ((n : Int) + 1), .string oi, .string oy, .int .i64 od, .int .i64 oq, .int .i64 op] 128)).drew).grown hg5 (fun kk hk => (Hne.out kk hk).2)).upd ((Upd.refl fb w5).set 4 (.slice A5 (n + 1) c5)) (by omega)
      have hcn5 := hn5.cell
      go_wp2_with fail
      go_ret2
      rw [HP2.out]
      have hM5 : Mods (fun k => k = fb ∨ (Value.slice A n c).ownBlock = some k) w w5 := (((Below.mods_ HB.out _).alloc _).drew).grown hg5 (fun i hi => .inl (.inr hi))
      refine ⟨by simp only [Hn.out]; rfl, .slice A5 (n + 1) c5, ⟨ho5.set 4 _, ?_⟩, ?_⟩
      · simp only
        rw [List.length_append, Hn.out, List.length_singleton, List.flatMap_append]
        exact own_upd hown5 ((Upd.refl fb w5).set 4 _) (by omega)
      · rw [Hn.out]; exact hM5.setCell (⟨fb, 4, none⟩ : Addr) (.inl (.inl rfl)) _

end Go.Proofs.Yteggpdhkpmkldaa
