import Derived.Test.YteggpdhkpmkldaaJd
import Derived.Deep.CutBlock
namespace Go.Proofs.Yteggpdhkpmkldaa
open Go.RowKit Go.Maps

theorem sn_below {w v v' : World} {g : Nat} (h1 : Below w.heap.size w v) (hg : w.heap.size ≤ g) (h4 : Mods (fun k => k = g) v v') : Below w.heap.size w v' := Below.mods h1 h4 (fun k hk => by omega) h1.size

def nmE : ByteArray := ⟨#[101]⟩
def nmF : ByteArray := ⟨#[102]⟩
def xC : Ex := ⟨⟨#[99]⟩, 0, 0, false⟩
set_option maxHeartbeats 1600000 in
set_option maxRecDepth 100000 in
theorem awake13 (w : World) : Calls Try.prog 13 #[] w fun e w' => e = .returned (.bool true) ∧ Below w.heap.size w w' := by
  have e1 : sPut 1 [] nmE xC = (0, [(nmE, xC)]) := by kernel_rfl
  have e2 : sPut 1 [(nmE, xC)] nmE zEx = (41, [(nmE, xC)]) := by kernel_rfl
  have e3 : sPut 1 [(nmE, xC)] nmF zEx = (40, [(nmE, xC)]) := by kernel_rfl
  have e4 : sBust [(nmE, xC)] nmE = (0, [(nmE, { xC with bu := true })]) := by kernel_rfl
  have e5 : sBust [(nmE, { xC with bu := true })] nmE = (41, [(nmE, { xC with bu := true })]) := by kernel_rfl
  have hE : nmE.size ≤ maxLen := by decide
  have hF : nmF.size ≤ maxLen := by decide
  have E1 := Lib.hid e1
  have E2 := Lib.hid e2
  have E3 := Lib.hid e3
  have E4 := Lib.hid e4
  have E5 := Lib.hid e5
  clear e1 e2 e3 e4 e5
  go_enter Try.func13, Try.ntmps13
  go_wp2_with fail
  refine (sNew_any _ _).mono ?_
  rintro e w1 (⟨-, hf, -⟩ | ⟨-, -, b, g, rfl, h1, hb, hg, hb1⟩)
  · exact absurd hf (by decide)
  have hs1 := hb1.size
  go_wp2_with fail
  refine (sPut_any w1 b g 1 _ h1 nmE hE xC).mono ?_
  rw [E1.out]
  rintro e w2 ⟨rfl, h2, hM⟩
  have hb2 := sn_below hb1 hg hM
  clear h1 hM hb1
  go_wp2_with fail
  refine (sPut_any w2 b g 1 _ h2 nmE hE zEx).mono ?_
  rw [E2.out]
  rintro e w3 ⟨rfl, h3, hM⟩
  have hb3 := sn_below hb2 hg hM
  clear h2 hM hb2
  go_wp2_with fail
  refine (sPut_any w3 b g 1 _ h3 nmF hF zEx).mono ?_
  rw [E3.out]
  rintro e w4 ⟨rfl, h4, hM⟩
  have hb4 := sn_below hb3 hg hM
  clear h3 hM hb3
  go_wp2_with fail
  refine (sBust_any w4 b g 1 _ h4 nmE hE).mono ?_
  rw [E4.out]
  rintro e w5 ⟨rfl, h5, hM⟩
  have hb5 := sn_below hb4 hg hM
  clear h4 hM hb4
  go_wp2_with fail
  refine (sBust_any w5 b g 1 _ h5 nmE hE).mono ?_
  rw [E5.out]
  rintro e w6 ⟨rfl, h6, hM⟩
  have hb6 := sn_below hb5 hg hM
  clear h5 hM hb5
  go_wp2_with fail
  go_ret
  exact ⟨rfl, hb6⟩

/-! SeenNone. -/
/-- The op, the one that New did not make, the list of both. -/
structure SNo (w W : World) (b : Nat) (cs : List Value) : Prop where
  ho : Ob W w.heap.size 36 cs
  hs : Ob W b 50 [.int .i64 0, .map none]
  ha : Ob W (b + 1) 25 [.pointer none, .pointer (some ⟨b, 0, none⟩)]
  hb : Below w.heap.size w W
theorem SNo.below {w W W' : World} {b : Nat} {cs : List Value} (h : SNo w W b cs) (hb : Below W.heap.size W W') : SNo w W' b cs :=
  ⟨h.ho.below hb h.ho.lt, h.hs.below hb h.hs.lt, h.ha.below hb h.ha.lt, h.hb.trans (hb.mono h.hb.size)⟩
def NoSv (b : Nat) (v : Value) : Prop := v = .pointer none ∨ v = .pointer (some ⟨b, 0, none⟩)
theorem NoSv.no {W : World} {b : Nat} {v : Value} (h : NoSv b v) (hb : Ob W b 50 [.int .i64 0, .map none]) : Calls Try.prog 52 #[v] W fun e w' => e = .returned (.bool false) ∧ W = w' := by
  rcases h with rfl | rfl
  · exact sIs_nil W
  · exact sIs_any W b 0 false (hb.cell 0) rfl

set_option maxHeartbeats 4000000 in
set_option maxRecDepth 100000 in
theorem seenNone_walk (w : World) (kd : Int) (nm : ByteArray) (x : Ex) :
    Calls Try.prog 4 #[.agg #[.int .i64 kd, .string nm, .string x.od, .int .i64 x.q, .int .i64 x.p, .bool x.bu]] w fun e w' => e = .returned (.bool true) ∧ Below w.heap.size w w' := by
  obtain ⟨od, q, p, bu⟩ := x
  simp only
  go_enter Try.func4, Try.ntmps4
  go_wp2_with fail
  generalize hW0 : w.alloc (.cells #[.int .i64 kd, .string nm, .string od, .int .i64 q, .int .i64 p, .bool bu] 36) = w0
  refine (awake13 _).mono ?_
  rintro e w1 ⟨rfl, hb⟩
  have ho1 : Ob w0 w.heap.size 36 [.int .i64 kd, .string nm, .string od, .int .i64 q, .int .i64 p, .bool bu] := by subst hW0; exact Ob.new w 36 _
  have hsz : w0.heap.size = w.heap.size + 1 := by subst hW0; simp
  have hb0 : Below w.heap.size w w0 := by subst hW0; exact Below.alloc_set
  have ho2 := ho1.below hb (by omega)
  have hb1 : Below w.heap.size w w1 := hb0.trans (hb.mono (by omega))
  have hs1 : w.heap.size + 1 ≤ w1.heap.size := by have := hb.size; omega
  clear hW0 hb hb0 ho1 hsz
  go_upto_region 5 with (fail)
  refine cutW (fun W => SNo w W w1.heap.size [.int .i64 kd, .string nm, .string od, .int .i64 q, .int .i64 p, .bool bu]) ⟨?_, ?_, ?_, ?_⟩ ?_
  · exact (ho2.alloc _).alloc _
  · exact Ob.alloc (Ob.new w1 50 [.int .i64 0, .map none]) _
  · exact Ob.new2 w1 (.cells #[.int .i64 0, .map none] 50) 25 [.pointer none, .pointer (some ⟨w1.heap.size, 0, none⟩)]
  · exact (hb1.alloc (by omega) _).alloc (by simp; omega) _
  intro W hR0
  clear ho2 hb1
  generalize w1.heap.size = b at *
  go_loopw [15] (fun i wr => ∃ (k : Nat), k ≤ 2 ∧ i = .int .i64 k ∧ SNo w wr b [.int .i64 kd, .string nm, .string od, .int .i64 q, .int .i64 p, .bool bu]) (fun i _ => 2 - (intOf i).toNat)
  case atStart => exact ⟨0, by omega, rfl, hR0⟩
  case round =>
    clear hR0
    obtain ⟨k, hk, rfl, hR⟩ := hrel
    by_cases hlt : k < 2
    · obtain ⟨v, hv, hnv⟩ : ∃ v, [Value.pointer none, .pointer (some ⟨b, 0, none⟩)][k]? = some v ∧ NoSv b v := by
        match k, hlt with
        | 0, _ => exact ⟨_, rfl, .inl rfl⟩
        | 1, _ => exact ⟨_, rfl, .inr rfl⟩
      have hc2 := hR.ha.cell k
      rw [hv] at hc2
      have hc := hR.ho.cell
      have hd2 : decide ((k : Int) < 2) = true := by simp; omega
      have HR := Lib.hid hR
      have HV := Lib.hid hnv
      clear hR hv hnv
      go_upto_region 8 with (go_at_call 20; refine (nGet _ v _ (fun cs => HV.out.no (HR.out.hs.alloc _))).mono ?_; rintro e w3 ⟨rfl, hb3⟩)
      have hO3 := Ob.new w3 34 zEx.cells
      refine cutW (fun V => SNo w V b [.int .i64 kd, .string nm, .string od, .int .i64 q, .int .i64 p, .bool bu] ∧ Ob V w3.heap.size 34 zEx.cells) ⟨(HR.out.below hb3).below Below.alloc_set, hO3⟩ ?_
      clear HR hc2 hc hb3 hO3
      generalize w3.heap.size = N3 at *
      rintro V ⟨hR, hO⟩
      have hc := hR.ho.cell
      have HR := Lib.hid hR
      have HO := Lib.hid hO
      clear hR hO
      go_wp2_with fail
      refine (nPut V v nm ⟨od, q, p, bu⟩ (fun cs => HV.out.no (HR.out.hs.alloc _))).mono ?_
      rintro e w4 ⟨rfl, hb4⟩
      have hR4 := HR.out.below hb4
      have hc4 := hR4.ho.cell
      have ho4 : ∀ i, w4.cell? ⟨N3, i, none⟩ = [Value.string ⟨#[]⟩, .int .i64 0, .int .i64 0, .bool false][i]? := (HO.out.below hb4 HO.out.lt).cells_ex
      have hno := HV.out.no hR4.hs
      have HN := Lib.hid hno
      have HR4 := Lib.hid hR4
      clear HR HO hb4 hR4 hno hc
      go_wp2_with (first | (go_at_call 18; refine (nBust _ v HN.out _).mono ?_; rintro e w' ⟨rfl, rfl⟩) | (go_at_call 22; refine (nCount _ v HN.out).mono ?_; rintro e w' ⟨rfl, rfl⟩))
      go_roundw
      case rel => exact ⟨k + 1, by omega, by go_num, HR4.out⟩
      case measure => simp [intOf]; omega
    · have hk2 : k = 2 := by omega
      subst hk2
      have HR := Lib.hid hR
      clear hR
      go_wp2_with fail
      go_ret
      exact ⟨rfl, HR.out.hb⟩

end Go.Proofs.Yteggpdhkpmkldaa
