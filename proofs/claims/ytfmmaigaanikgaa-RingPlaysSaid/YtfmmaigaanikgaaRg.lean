import Derived.Test.YtfmmaigaanikgaaRb
import Derived.RangeFuncNested
import Derived.RangeFuncBound
import Derived.RangeFuncCalls
import Derived.RangeFuncLeaves
import Derived.Shelf.Abstract
import Derived.OwnWalkIn
import Derived.TacticsInMore
import Derived.LoopNIn
import Derived.LoopIn
namespace Go.Proofs.Ytfmmaigaanikgaa
open Go.RowKit Go.Shelf

attribute [local go_sem] Oper.semAt_some

theorem cell_grown {w w' : World} {row : Option Nat} {a : Addr} {v : Value} (h : w.cell? a = some v) (hg : w.grownBy w' row) (hne : ∀ k, row = some k → a.block ≠ k) : w'.cell? a = some v := by
  have hb := hg.block a.block (block_lt_of_cell h) (fun e => hne _ e.symm rfl)
  rw [← h]
  unfold World.cell?
  rw [hb]
theorem cell_gr {w w' : World} {row : Option Nat} (hg : w.grownBy w' row) {a : Addr} {v : Value} (h : w.cell? a = some v) (hne : ∀ k, row = some k → a.block ≠ k) : w'.cell? a = some v := cell_grown h hg hne
theorem cell_al {w : World} {a : Addr} {v : Value} (o : Obj) (h : w.cell? a = some v) : (w.alloc o).cell? a = some v := cell_grown h (World.grownBy_alloc w o none) (fun _ e => by cases e)

/-- One element is appended to a row of the call's own, as one step of a region that draws. -/
theorem step_append1 {P : Program} {ops : Array Oper} {w : World} {o : Oper} {a : Act} {K : Act → World → Prop} {Q : Exit → Act → World → Prop} {E : Prop} (hgd : o.guard = none) (s x : Operand) (t : TypeId)
    (ho : o.op = .call { callee := .builtin .append, args := #[s, x], argTypes := #[t, t] })
    (base : Nat) (e : TypeId) (i : TypeInfo) (z : Value) (size bytes : Nat) (ht : P.underlying t = some (.slice e)) (hi : P.info? e = some i) (hz : i.zero = some z)
    (hsize : i.size = size) (hby : i.bytes = bytes) (hzs : z.cells.size = size) (hsz : 0 < size)
    (v : Value) (n : Nat) (xs : List Value) (hs : a.eval s = v) (hown : w.ownsRow base e size v n xs)
    (g : Nat) (news : List Value) (hx : a.eval x = .slice (some ⟨g, 0, none⟩) 1 1) (hob : Ob w g e news) (hl : news.length = size) (h1 : ∀ u ∈ news, u.oneCell' = true)
    (h63 : n + 1 ≤ 1000000) (hb9 : bytes ≤ 1000000) (hbase : base ≤ w.heap.size)
    (h : ∀ v' w', w'.ownsRow base e size v' (n + 1) (xs ++ news) → w.grownBy w' v.ownBlock → (v'.ownBlock = v.ownBlock ∨ v'.ownBlock = some w.heap.size) → K (a.put o.dst v') w') :
    if Region.wanted o (yielded ops a.tmps) = true then Oper.wp P o a w K Q else E := by
  have hw : Region.wanted o (yielded ops a.tmps) = true := by simp [Region.wanted, hgd]
  rw [if_pos hw]
  obtain ⟨v', w', hrun, h2, h3, _, h5⟩ := run_append_own_at (P := P) w base t o.type e i z size bytes ht hi hz hsize hby hzs hsz v n xs hown ⟨g, 0, none⟩ 1 1 news (by simpa using hl)
    (fun j u hu => by rw [Go.WideShapes.add_plain, Nat.zero_add]; exact (hob.cell j).trans hu) h1 (by simp only [maxLen]; omega)
    (by have : (n + 1) * bytes ≤ 1000000 * 1000000 := Nat.mul_le_mul h63 hb9; omega) hbase
  unfold Oper.wp execOp
  simp only [ho, resolve, invoke, builtin, Sem.run_bind, Sem.run_pure, Result.andThen_ok, List.map_toArray, List.map_cons, List.map_nil, hs, hx, hrun]
  exact h v' w' h2 h3 h5

/-- Every block of cells but those of S lies as it lay. -/
def KpS (S : Nat → Prop) (A B : World) : Prop := A.heap.size ≤ B.heap.size ∧ ∀ k o, A.heap[k]? = some o → o.isCells = true → ¬ S k → B.heap[k]? = some o
theorem KpS.refl (S : Nat → Prop) (A : World) : KpS S A A := ⟨Nat.le_refl _, fun _ _ h _ _ => h⟩
theorem KpS.trans {S : Nat → Prop} {A B C : World} (h : KpS S A B) (k : KpS S B C) : KpS S A C := ⟨Nat.le_trans h.1 k.1, fun i o h1 h2 h3 => k.2 i o (h.2 i o h1 h2 h3) h2 h3⟩
theorem KpS.put (S : Nat → Prop) (W : World) (l : Nat) (o o' : Obj) (h : W.heap[l]? = some o) (hc : o.isCells = false) : KpS S W (W.putObj l o') :=
  ⟨(grownBy_putObj' W l o').size, fun k p hk hp _ => by
    by_cases e : k = l
    · subst e; rw [h] at hk; injection hk with hk; subst hk; rw [hc] at hp; cases hp
    · rw [(grownBy_putObj' W l o').block k (Array.getElem?_eq_some_iff.1 hk).1 (fun e' => e (by injection e'))]; exact hk⟩
theorem KpS.mods {S : Nat → Prop} {A B : World} (h : Mods S A B) : KpS S A B := ⟨h.size, fun k o hk _ hS => by rw [h.block k (Array.getElem?_eq_some_iff.1 hk).1 hS]; exact hk⟩

set_option maxHeartbeats 2000000 in
set_option maxRecDepth 100000 in
theorem rAll1 (n l Bn : Nat) (S : Nat → Prop) (b g R first : Nat) (xs arr : List Int) (J Jx : List Int → World → Prop) (W : World)
    (hY : ∀ pre x W1, J pre W1 → pre.length < xs.length → YieldAt Fence.wide n Try.prog l #[.int .i64 x] W1 fun e W' => (e = .returned (.bool true) ∧ J (pre ++ [x]) W' ∧ KpS S W1 W') ∨ (e = .returned (.bool false) ∧ Jx (pre ++ [x]) W'))
    (hJ : AbidesFrom W.heap.size J) (hS : ∀ k, S k → k < W.heap.size) (hBn : W.cell? ⟨Bn, 0, none⟩ = some (.pointer (some ⟨b, 0, none⟩))) (hR : RIAt W b g R first xs arr) (h0 : J [] W) :
    Calls Try.prog 66 #[.func (.yield l) #[] #[], .pointer (some ⟨Bn, 0, none⟩)] W fun e W' => (∃ v, e = .returned v) ∧ ((∃ ys, ys = xs ∧ J ys W') ∨ (∃ pre, pre <+: xs ∧ Jx pre W')) := by
  obtain ⟨i0, hi0, hz0, hz1, hz2⟩ := info_parts RIInfo
  have HI := Lib.hid hi0
  have HZ0 := Lib.hid hz0
  have HZ1 := Lib.hid hz1
  have HZ2 := Lib.hid hz2
  have hR1 := hR.hR.1
  have hR2 := hR.hR.2
  have hf := hR.hf
  have hx9 := hR.hx
  have hbl := hR.ho.lt
  have hgl := hR.hg.lt
  have hBl : Bn < W.heap.size := block_lt_of_cell hBn
  obtain ⟨s, hs⟩ : ∃ s, xs.length = s := ⟨_, rfl⟩
  rw [hs] at hx9
  have hmk : ∀ V : World, (Instr.makeSlice 49 (.int .i64 0) (.int .i64 (s : Int))).run Try.prog V = .ok (.slice (some ⟨V.heap.size, 0, none⟩) 0 s) (V.alloc (.cells (List.replicate s (.int .i64 0)).toArray 3)) := fun V => by
    have hr := run_make (P := Try.prog) V 49 3 i0 (.int .i64 0) Try.underlying49 hi0 hz0 .i64 .i64 (0 : Nat) s (by omega) (by omega) (by rw [hz2]; omega) (by omega)
    simp only [Int.toNat_natCast] at hr
    rw [hz1, Nat.mul_one] at hr
    rw [← madeCells_one]
    exact hr
  clear hi0 hz0 hz1 hz2
  obtain ⟨row, hrow⟩ : ∃ row, row = (List.replicate s (Value.int .i64 0)).toArray := ⟨_, rfl⟩
  rw [← hrow] at hmk
  have Hmk := Lib.hid hmk
  have Hrow := Lib.hid hrow
  have Hs := Lib.hid hs
  have HR := Lib.hid hR
  have H0 := Lib.hid h0
  have HJ := Lib.hid hJ
  have HY := Lib.hid hY
  have hoc := hR.ho.cell
  rw [hs] at hoc
  clear hs hR h0 hJ hY hmk hrow
  have hmk := Hmk.out
  go_enter Try.func66, Try.ntmps66
  go_wp2_with (go_at_call 63; refine (RIIs_some _ b g R (hoc 0) hR1).mono ?_; rintro e w' ⟨rfl, rfl⟩)
  clear hmk
  have hown : (W.alloc (.cells row 3)).ownsRow W.heap.size 3 1 (.slice (some ⟨W.heap.size, 0, none⟩) 0 s) 0 (((xs.take 0).map (Value.int .i64))) :=
    ⟨by simp, .inr ⟨W.heap.size, s, row, rfl, Nat.le_refl _, (MapKept.heap_alloc W _).1, Nat.zero_le _, by simp only [maxLen]; omega, by rw [Hrow.out]; simp, by simp⟩⟩
  have Hown := Lib.hid hown
  clear hown
  go_loopw [3, 19] (fun v i wx => ∃ (k : Nat), k ≤ s ∧ i = .int .i64 k ∧ wx.ownsRow W.heap.size 3 1 v k ((xs.take k).map (Value.int .i64)) ∧ (∃ A c, v = .slice A k c) ∧ RIAt wx b g R first xs arr ∧ wx.cell? ⟨Bn, 0, none⟩ = some (.pointer (some ⟨b, 0, none⟩)) ∧ Below W.heap.size W wx ∧ (∃ g0, v.ownBlock = some g0)) (fun _ i _ => s - (intOf i).toNat)
  case atStart => exact ⟨0, by omega, rfl, Hown.out, ⟨_, _, rfl⟩, HR.out.mods ((Mods.refl (fun _ => False) W).alloc _) id id, cell_al _ hBn, (Below.refl _ W).alloc (Nat.le_refl _) _, ⟨_, rfl⟩⟩
  case round =>
    clear Hown hoc
    obtain ⟨k, hk, rfl, hown, ⟨A, c, rfl⟩, hR, hBx, hB, hg0⟩ := hrel
    have hBs := hB.size
    by_cases hlt : k < s
    · obtain ⟨x, hx⟩ : ∃ x, xs[k]? = some x := ⟨_, List.getElem?_eq_getElem (by have := Hs.out; omega)⟩
      obtain ⟨m, hm⟩ : ∃ m, (first + k) % R = m := ⟨_, rfl⟩
      have hat := hR.hat k x hx
      rw [hm] at hat
      have hmR : m < R := by rw [← hm]; exact Nat.mod_lt _ (by omega)
      have f3 : wr.cell? ⟨g, m, none⟩ = some (.int .i64 x) := (hR.hg.cell m).trans (by rw [List.getElem?_map, hat]; rfl)
      have f2 := hR.ho.cell 0
      have hc := hR.ho.cell
      rw [Hs.out] at hc
      have Hc := Lib.hid hc
      have Hm := Lib.hid hm
      have Hx := Lib.hid hx
      have HR2' := Lib.hid hR
      have Hown := Lib.hid hown
      have Hg0 := Lib.hid hg0
      have hw1 : 0 ≤ (m : Int) := by omega
      have Hn3 : Hid (k + 1 ≤ 1000000) := by show _ ≤ _; omega
      have hne : ∀ a : Addr, a.block < W.heap.size → ∀ kk, (Value.slice A k c).ownBlock = some kk → a.block ≠ kk := fun a ha kk hk' e => by have := own_block Hown.out kk hk'; omega
      have Hne := Lib.hid hne
      have hbs : ∀ (o : Obj) (j : Nat), W.heap.size ≤ ((wr.drewN j).alloc o).heap.size := fun o j => by simp; exact Nat.le_trans hBs (Nat.le_succ _)
      have Hbs := Lib.hid hbs
      clear hown hm hx hat hR hc hg0 hne hbs
      go_upto_region 5 with (fail)
      go_region_held3 (fun w' => w'.cell? ⟨Bn, 0, none⟩ = some (.pointer (some ⟨b, 0, none⟩)) ∧ w'.cell? ⟨b, 0, none⟩ = some (.slice (some ⟨g, 0, none⟩) R R) ∧ w'.cell? ⟨g, m, none⟩ = some (.int .i64 x))
        (first | exact ⟨hBx, f2, f3⟩ | exact ⟨g1, g2, g3⟩ | exact ⟨cell_al _ hBx, cell_al _ f2, cell_al _ f3⟩ | go_keep)
        (first
          | (go_at_call 64; refine (RIAt_any _ b g R first s k (by exact Hc.out) ⟨hR1, hR2⟩ hf (by omega) m Hm.out).mono ?_; rintro e w' ⟨rfl, j, rfl⟩)
          | (refine step_append1 rfl (.tmp 22) (.tmp 32) 49 rfl W.heap.size 3 i0 (.int .i64 0) 1 8 Try.underlying49 HI.out HZ0.out HZ1.out HZ2.out rfl (Nat.zero_lt_one) (.slice A k c) k _ rfl (own_mods Hown.out (((Mods.refl (fun _ => False) wr).drewN _).alloc (.cells #[.int .i64 x] 3)) (fun _ _ => id)) _ [.int .i64 x] rfl ?_ rfl ?_ Hn3.out ?_ (Hbs.out _ _) (fun v5 w5 hown5 hg5 hat5 => ?_)
             · exact Ob.new _ 3 [.int .i64 x]
             · simp [Value.oneCell']
             · decide
             have g1 := cell_gr hg5 (cell_al _ hBx) (Hne.out _ hBl)
             have g2 := cell_gr hg5 (cell_al _ f2) (Hne.out _ hbl)
             have g3 := cell_gr hg5 (cell_al _ f3) (Hne.out _ hgl)))
      obtain ⟨A5, c5, rfl, -, -, -⟩ := own_shape hown5
      have hM : Mods (fun i => (Value.slice A k c).ownBlock = some i) wr w5 := (((Mods.refl _ wr).drewN _).alloc _).grown hg5 (fun i hi => .inl hi)
      have Hown5 := Lib.hid hown5
      have HM := Lib.hid hM
      have Hat5 := Lib.hid hat5
      clear hown5 hM hat5
      go_wp2_with fail
      go_roundw
      case rel =>
        refine ⟨k + 1, by omega, by go_num, ?_, ⟨_, _, rfl⟩, HR2'.out.mods HM.out (fun h => Hne.out ⟨b, 0, none⟩ hbl _ h rfl) (fun h => Hne.out ⟨g, 0, none⟩ hgl _ h rfl), g1, Below.mods hB HM.out (fun i hi => own_block Hown.out i hi) hBs, ?_⟩
        · rw [List.take_add_one, Hx.out, List.map_append]; exact Hown5.out
        · rcases Hat5.out with h | h
          · obtain ⟨g0, h0⟩ := Hg0.out; exact ⟨g0, h.trans h0⟩
          · exact ⟨_, h⟩
      case measure => simp [intOf]; omega
    · have hks : k = s := by omega
      subst hks
      rw [List.take_of_length_le (by rw [Hs.out]; exact Nat.le_refl _)] at hown
      obtain ⟨g0, hg0⟩ := hg0
      rcases hown.2 with ⟨h1, _⟩ | ⟨gn, cap, cur, hv, hgb, hh, -, -, -, ht⟩
      · rw [h1] at hg0; simp [Value.ownBlock] at hg0
      injection hv with e1 _ e3
      subst e1 e3
      have hcell : ∀ (V : World) (j : Nat) (x : Int), V.heap[gn]? = some (.cells cur 3 (0, 0)) → xs[j]? = some x → V.cell? ⟨gn, j, none⟩ = some (.int .i64 x) := fun V j x hV hx => by
        have hj : j < k := by have := (List.getElem?_eq_some_iff.1 hx).1; have := Hs.out; omega
        unfold World.cell?
        rw [hV]
        have : cur[j]? = (cur.toList.take (k * 1))[j]? := by rw [List.getElem?_take, if_pos (by omega)]; simp
        simp only [this, ht, List.getElem?_map, hx]
        rfl
      have Hcell := Lib.hid hcell
      have hJ0 : J [] wr := HJ.out [] W wr none H0.out ⟨hB.os, hB.tape, hB.output, hB.size, fun i hi _ => hB.block i hi⟩ (fun r e => by cases e)
      have HJ0 := Lib.hid hJ0
      have Hh := Lib.hid hh
      have Hgb : Hid (W.heap.size ≤ gn) := Lib.hid hgb
      clear hown hg0 hh hcell hJ0 hR hBx hB hgb ht
      go_wp2_with fail
      go_loopw [37] (fun i wx => ∃ k2 : Nat, k2 ≤ k ∧ i = .int .i64 k2 ∧ J (xs.take k2) wx ∧ wx.heap[gn]? = some (.cells cur 3 (0, 0))) (fun i _ => k - (intOf i).toNat)
      case atStart => exact ⟨0, by omega, rfl, HJ0.out, Hh.out⟩
      case round =>
        clear HJ0 Hh
        obtain ⟨k2, hk2, rfl, hJ, hh⟩ := hrel
        have Hh := Lib.hid hh
        have HJ2 := Lib.hid hJ
        clear hh hJ
        by_cases hlt2 : k2 < k
        · obtain ⟨x, hx⟩ : ∃ x, xs[k2]? = some x := ⟨_, List.getElem?_eq_getElem (by have := Hs.out; omega)⟩
          have hc := Hcell.out _ k2 x Hh.out hx
          obtain ⟨fn, tmps, assign, body, hy, hRd⟩ := HY.out (xs.take k2) x _ HJ2.out (by rw [List.length_take, Hs.out]; omega)
          have hpre : xs.take k2 ++ [x] = xs.take (k2 + 1) := by rw [List.take_add_one, hx]; rfl
          have Hpre := Lib.hid hpre
          have HRd := Lib.hid hRd
          have Hy := Lib.hid hy
          clear hx hpre hRd hy
          go_upto_region 10 with (fail)
          have hy := Hy.out
          refine (wpIn_wide (n := n + 1)).1 ?_
          gi_wp2
          refine HRd.out.mono ?_
          rintro e W3 (⟨rfl, hJ3, hk3⟩ | ⟨rfl, hJx3⟩)
          · have HJ3 := Lib.hid hJ3
            have Hk3 := Lib.hid hk3
            clear hJ3 hk3 hy
            gi_wp2
            go_wp2_with fail
            go_roundw
            case rel => exact ⟨k2 + 1, by omega, by go_num, by rw [← Hpre.out]; exact HJ3.out, Hk3.out.2 gn _ Hh.out rfl (fun h => by have := hS gn h; have := Hgb.out; omega)⟩
            case measure => simp [intOf]; omega
          · have HJx3 := Lib.hid hJx3
            clear hJx3 hy
            gi_wp2
            go_wp2_with fail
            refine bodyPost_ret (results_none rfl _ _ _) rfl ?_
            exact ⟨⟨_, rfl⟩, .inr ⟨xs.take (k2 + 1), List.take_prefix _ _, by rw [← Hpre.out]; exact HJx3.out⟩⟩
        · have hall : xs.take k2 = xs := List.take_of_length_le (by rw [Hs.out]; omega)
          have hJe := HJ2.out
          rw [hall] at hJe
          have HJe := Lib.hid hJe
          clear hall hJe
          go_wp2_with fail
          go_end0
          exact ⟨⟨_, rfl⟩, .inl ⟨_, rfl, HJe.out⟩⟩

end Go.Proofs.Ytfmmaigaanikgaa
