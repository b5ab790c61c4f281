import Derived.Test.YtjhlaifflhjafaaXj
namespace Go.Proofs.Ytjhlaifflhjafaa
open Go.RowKit

/-- ChildNone's loops: the op, the child that was not made, the list of both. -/
structure CNo (w W : World) (b : Nat) (k o2 o3 : Int) : Prop where
  ho : Ob W w.heap.size 32 [.int .i64 k, .int .i64 o2, .int .i64 o3]
  hs : CAt W b zch
  ha : Ob W (b + 1) 27 [.pointer none, .pointer (some ⟨b, 0, none⟩)]
  hb : Below w.heap.size w W
  hle : w.heap.size < b
theorem CNo.below {w W W' : World} {b : Nat} {k o2 o3 : Int} (h : CNo w W b k o2 o3) (hb : Below W.heap.size W W') : CNo w W' b k o2 o3 :=
  ⟨h.ho.below hb h.ho.lt, h.hs.below hb, h.ha.below hb h.ha.lt, h.hb.trans (hb.mono h.hb.size), h.hle⟩
theorem CNo.set {w W : World} {b : Nat} {k o2 o3 : Int} (h : CNo w W b k o2 o3) (k' : Int) : CNo w (W.setCell ⟨w.heap.size, 0, none⟩ (.int .i64 k')) b k' o2 o3 :=
  ⟨Ob.set h.ho 0 (.int .i64 k'), Ob.upd h.hs ((Upd.refl _ _).set 0 _) (by have := h.hle; omega), Ob.upd h.ha ((Upd.refl _ _).set 0 _) (by have := h.hle; omega), h.hb.setCell (by simp) _, h.hle⟩

set_option maxHeartbeats 4000000 in
set_option maxRecDepth 100000 in
theorem childNone_walk (w : World) (x : COp) :
    Calls Try.prog 5 #[.agg (chOp x).toArray] w fun e w' => e = .returned (.bool true) ∧ Below w.heap.size w w' := by
  obtain ⟨x1, x2, x3⟩ := x
  show Calls Try.prog 5 #[.agg #[.int .i64 x1, .int .i64 x2, .int .i64 x3]] w _
  go_enter Try.func5, Try.ntmps5
  go_wp2_with fail
  generalize hW0 : w.alloc (.cells #[.int .i64 x1, .int .i64 x2, .int .i64 x3] 32) = w0
  refine (awake21 _).mono ?_
  rintro e w1 ⟨rfl, hb⟩
  have ho1 : Ob w0 w.heap.size 32 [.int .i64 x1, .int .i64 x2, .int .i64 x3] := by subst hW0; exact Ob.new w 32 _
  have hsz : w0.heap.size = w.heap.size + 1 := by subst hW0; simp
  have hb0 : Below w.heap.size w w0 := by subst hW0; exact Below.alloc_set
  have ho2 := ho1.below hb (by omega)
  have hb1 : Below w.heap.size w w1 := hb0.trans (hb.mono (by omega))
  have hs1 : w.heap.size + 1 ≤ w1.heap.size := by have := hb.size; omega
  clear hW0 hb hb0 ho1 hsz
  go_upto_region 5 with (fail)
  refine cutW (fun W => CNo w W w1.heap.size x1 x2 x3) ⟨?_, ?_, ?_, ?_, by omega⟩ ?_
  · exact (ho2.alloc _).alloc _
  · exact Ob.alloc (Ob.new w1 41 (Ch.cells zch)) _
  · exact Ob.new2 w1 (.cells (Ch.cells zch).toArray 41) 27 [.pointer none, .pointer (some ⟨w1.heap.size, 0, none⟩)]
  · exact (hb1.alloc (by omega) _).alloc (by simp; omega) _
  intro W hR0
  clear ho2 hb1
  generalize w1.heap.size = b at *
  go_loopw [14] (fun i wr => ∃ (k : Nat) (y : Int), k ≤ 2 ∧ i = .int .i64 k ∧ CNo w wr b y x2 x3) (fun i _ => 2 - (intOf i).toNat)
  case atStart => exact ⟨0, x1, by omega, rfl, hR0⟩
  case round =>
    clear hR0
    obtain ⟨k, y, hk, rfl, hR⟩ := hrel
    by_cases hlt : k < 2
    · obtain ⟨v, hv, hnv⟩ : ∃ v, [Value.pointer none, .pointer (some ⟨b, 0, none⟩)][k]? = some v ∧ NoV b v := by
        match k, hlt with
        | 0, _ => exact ⟨_, rfl, .inl rfl⟩
        | 1, _ => exact ⟨_, rfl, .inr rfl⟩
      have hc2 := hR.ha.cell k
      rw [hv] at hc2
      have hd2 : decide ((k : Int) < 2) = true := by simp; omega
      have HR := Lib.hid hR
      have HV := Lib.hid hnv
      clear hR hv hnv
      go_upto_region 8 with (fail)
      refine cutW (fun V => CNo w V b y x2 x3) HR.out ?_
      clear HR hc2
      intro V hR1
      go_loopw [18] (fun i wx => ∃ (j : Nat) (z : Int), j ≤ 11 ∧ i = .int .i64 j ∧ CNo w wx b z x2 x3) (fun i _ => 11 - (intOf i).toNat)
      case atStart => exact ⟨0, y, by omega, rfl, hR1⟩
      case round =>
        clear hR1
        obtain ⟨j, z, hj, rfl, hR⟩ := hrel
        by_cases hjl : j < 11
        · have hz0 := hR.ho.frozen
          have hl0 := hR.ho.lt
          have hcz := hR.ho.cell
          have HR := Lib.hid hR
          clear hR
          go_upto_region 11 with (fail)
          refine cutW (fun Y => CNo w Y b j x2 x3) (HR.out.set j) ?_
          clear HR hcz hz0 hl0
          intro Y hR
          have hcy := hR.ho.cell
          have HR := Lib.hid hR
          clear hR
          by_cases h07 : j = 0 ∨ j = 7
          · rcases h07 with rfl | rfl
            · go_wp2_with fail
              go_roundw
              case rel => exact ⟨1, _, by omega, by go_num, HR.out⟩
              case measure => simp [intOf]
            · go_wp2_with fail
              go_roundw
              case rel => exact ⟨8, _, by omega, by go_num, HR.out⟩
              case measure => simp [intOf]
          · have t0 : ((j : Int) != 0) = true := by simp; omega
            have t7 : ((j : Int) != 7) = true := by simp; omega
            have hdo := zDo Y v j x2 x3 (by omega) (by omega) (by omega) (fun cs => HV.out.no (Ob.alloc HR.out.hs _))
            have Hdo := Lib.hid hdo
            clear hdo h07
            go_upto_region 13 with (go_at_call 20; refine Hdo.out.mono ?_; rintro en w3 ⟨rfl, hq⟩)
            refine cutW (fun Y2 => CNo w Y2 b j x2 x3) (HR.out.below hq) ?_
            clear HR hq hcy Hdo t0 t7
            intro Y2 hR
            have HR3 := Lib.hid hR
            clear hR
            go_wp2_with fail
            go_roundw
            case rel => exact ⟨j + 1, _, by omega, by go_num, HR3.out⟩
            case measure => simp [intOf]; omega
        · have hj11 : j = 11 := by omega
          subst hj11
          have HR := Lib.hid hR
          clear hR hjl hj
          have hst := zStatus wr v (fun cs => HV.out.no (Ob.alloc HR.out.hs _))
          have Hst := Lib.hid hst
          clear hst
          go_wp2_with fail
          refine Hst.out.mono ?_
          rintro en w4 ⟨rfl, hq4⟩
          have HR4 := Lib.hid (HR.out.below hq4)
          clear HR hq4 Hst
          have hno := HV.out.no HR4.out.hs
          have HN := Lib.hid hno
          clear hno
          go_wp2_with (first | (go_at_call 23; refine (zClaim _ v HN.out).mono ?_; rintro e w' ⟨rfl, rfl⟩) | (go_at_call 22; refine (zOpen _ v HN.out).mono ?_; rintro e w' ⟨rfl, rfl⟩) | (go_at_call 24; refine (zCover _ v HN.out).mono ?_; rintro e w' ⟨rfl, rfl⟩))
          go_roundw
          case rel => exact ⟨k + 1, _, by omega, by go_num, HR4.out⟩
          case measure => simp [intOf]; omega
    · have hk2 : k = 2 := by omega
      subst hk2
      have HR := Lib.hid hR
      clear hR
      go_wp2_with fail
      go_ret
      exact ⟨rfl, HR.out.hb⟩

end Go.Proofs.Ytjhlaifflhjafaa
