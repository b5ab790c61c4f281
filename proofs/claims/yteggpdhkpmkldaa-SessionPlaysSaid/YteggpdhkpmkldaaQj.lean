import Derived.Test.YteggpdhkpmkldaaQi
namespace Go.Proofs.Yteggpdhkpmkldaa
open Go.RowKit

/-- SessionNone's loop: the op, the session that New did not make, the list of both. -/
structure ZNo (w W : World) (b : Nat) (cs : List Value) : Prop where
  ho : Ob W w.heap.size 87 cs
  hs : Ob W b 103 [.pointer none, .int .i64 0, .int .i64 0, .int .i64 0, .bool false]
  ha : Ob W (b + 1) 80 [.pointer none, .pointer (some ⟨b, 0, none⟩)]
  hb : Below w.heap.size w W
theorem ZNo.below {w W W' : World} {b : Nat} {cs : List Value} (h : ZNo w W b cs) (hb : Below W.heap.size W W') : ZNo w W' b cs :=
  ⟨h.ho.below hb h.ho.lt, h.hs.below hb h.hs.lt, h.ha.below hb h.ha.lt, h.hb.trans (hb.mono h.hb.size)⟩
def NoSw (b : Nat) (v : Value) : Prop := v = .pointer none ∨ v = .pointer (some ⟨b, 0, none⟩)
theorem NoSw.no {W : World} {b : Nat} {v : Value} (h : NoSw b v) (hb : Ob W b 103 [.pointer none, .int .i64 0, .int .i64 0, .int .i64 0, .bool false]) : NoSe W v := by
  rcases h with rfl | rfl
  · exact seIs_nil W
  · exact seIs_none W b (hb.cell 0)
theorem NoSw.all {W : World} {b : Nat} {v : Value} (h : NoSw b v) (hb : Ob W b 103 [.pointer none, .int .i64 0, .int .i64 0, .int .i64 0, .bool false]) : ∀ V, Mods (fun _ => False) W V → NoSe V v := fun V hm => h.no (hb.mods hm id)

set_option maxHeartbeats 4000000 in
set_option maxRecDepth 100000 in
theorem sessionNone_walk (w : World) (kd nn : Int) (o : Od) :
    Calls Try.prog 12 #[.agg #[.int .i64 kd, .int .i64 nn, .int .i64 o.kd, .int .i64 o.sq, .string o.id, .string o.sy, .int .i64 o.sd, .int .i64 o.q, .int .i64 o.p]] w fun e w' => e = .returned (.bool true) ∧ Below w.heap.size w w' := by
  obtain ⟨ok, os, oi, oy, od, oq, op⟩ := o
  simp only
  go_enter Try.func12, Try.ntmps12
  go_wp2_with fail
  generalize hW0 : w.alloc (.cells #[.int .i64 kd, .int .i64 nn, .int .i64 ok, .int .i64 os, .string oi, .string oy, .int .i64 od, .int .i64 oq, .int .i64 op] 87) = w0
  refine (awake37 _).mono ?_
  rintro e w1 ⟨rfl, hb⟩
  have ho1 : Ob w0 w.heap.size 87 [.int .i64 kd, .int .i64 nn, .int .i64 ok, .int .i64 os, .string oi, .string oy, .int .i64 od, .int .i64 oq, .int .i64 op] := by subst hW0; exact Ob.new w 87 _
  have hsz : w0.heap.size = w.heap.size + 1 := by subst hW0; simp
  have hb0 : Below w.heap.size w w0 := by subst hW0; exact Below.alloc_set
  have ho2 := ho1.below hb (by omega)
  have hb1 : Below w.heap.size w w1 := hb0.trans (hb.mono (by omega))
  have hs1 : w.heap.size + 1 ≤ w1.heap.size := by have := hb.size; omega
  clear hW0 hb hb0 ho1 hsz
  go_upto_region 5 with (fail)
  refine cutW (fun W => ZNo w W w1.heap.size [.int .i64 kd, .int .i64 nn, .int .i64 ok, .int .i64 os, .string oi, .string oy, .int .i64 od, .int .i64 oq, .int .i64 op]) ⟨?_, ?_, ?_, ?_⟩ ?_
  · exact (ho2.alloc _).alloc _
  · exact Ob.alloc (Ob.new w1 103 [.pointer none, .int .i64 0, .int .i64 0, .int .i64 0, .bool false]) _
  · exact Ob.new2 w1 (.cells #[.pointer none, .int .i64 0, .int .i64 0, .int .i64 0, .bool false] 103) 80 [.pointer none, .pointer (some ⟨w1.heap.size, 0, none⟩)]
  · exact (hb1.alloc (by omega) _).alloc (by simp; omega) _
  intro W hR0
  clear ho2 hb1
  generalize w1.heap.size = b at *
  go_loopw [17] (fun i wr => ∃ (k : Nat), k ≤ 2 ∧ i = .int .i64 k ∧ ZNo w wr b [.int .i64 kd, .int .i64 nn, .int .i64 ok, .int .i64 os, .string oi, .string oy, .int .i64 od, .int .i64 oq, .int .i64 op]) (fun i _ => 2 - (intOf i).toNat)
  case atStart => exact ⟨0, by omega, rfl, hR0⟩
  case round =>
    clear hR0
    obtain ⟨k, hk, rfl, hR⟩ := hrel
    by_cases hlt : k < 2
    · obtain ⟨v, hv, hnv⟩ : ∃ v, [Value.pointer none, .pointer (some ⟨b, 0, none⟩)][k]? = some v ∧ NoSw b v := by
        match k, hlt with
        | 0, _ => exact ⟨_, rfl, .inl rfl⟩
        | 1, _ => exact ⟨_, rfl, .inr rfl⟩
      have hc2 := hR.ha.cell k
      rw [hv] at hc2
      have hc := hR.ho.cell
      have hd2 : decide ((k : Int) < 2) = true := by simp; omega
      have hsd := zeSend wr v ⟨ok, os, oi, oy, od, oq, op⟩ (hnv.all hR.hs)
      have hsd : Calls Try.prog 40 #[v, .agg #[.int .i64 ok, .int .i64 os, .string oi, .string oy, .int .i64 od, .int .i64 oq, .int .i64 op]] wr fun e w' => e = .returned (.tuple #[.int .i64 0, .int .i64 1]) ∧ Below wr.heap.size wr w' := hsd
      have HSd := Lib.hid hsd
      have HR := Lib.hid hR
      have HV := Lib.hid hnv
      clear hR hv hnv hsd
      go_upto_region 8 with (go_at_call 40; refine HSd.out.mono ?_; rintro e w3 ⟨rfl, hb3⟩)
      refine cutW (fun V => ZNo w V b [.int .i64 kd, .int .i64 nn, .int .i64 ok, .int .i64 os, .string oi, .string oy, .int .i64 od, .int .i64 oq, .int .i64 op]) (HR.out.below hb3) ?_
      clear HR hc2 hc hb3 HSd
      rintro V hR
      have hpp := zePop V v (HV.out.all hR.hs)
      have HP := Lib.hid hpp
      have HR := Lib.hid hR
      clear hR hpp
      go_upto_region 9 with (go_at_call 41; refine HP.out.mono ?_; rintro e w4 ⟨rfl, hb4⟩)
      have hO4 := Ob.new w4 85 [.int .i64 0, .int .i64 0, .string ⟨#[]⟩, .string ⟨#[]⟩, .int .i64 0, .int .i64 0, .int .i64 0]
      refine cutW (fun V => ZNo w V b [.int .i64 kd, .int .i64 nn, .int .i64 ok, .int .i64 os, .string oi, .string oy, .int .i64 od, .int .i64 oq, .int .i64 op] ∧ Ob V w4.heap.size 85 [.int .i64 0, .int .i64 0, .string ⟨#[]⟩, .string ⟨#[]⟩, .int .i64 0, .int .i64 0, .int .i64 0]) ⟨(HR.out.below hb4).below Below.alloc_set, hO4⟩ ?_
      clear HR HP hb4 hO4
      generalize w4.heap.size = N4 at *
      rintro U ⟨hR, hO⟩
      have hc := hR.ho.cell
      have hcz := hO.cell
      have hno := HV.out.no hR.hs
      have HN := Lib.hid hno
      have HR := Lib.hid hR
      clear hR hO hno
      go_wp2_with (first | (go_at_call 51; refine (zeFault _ v HN.out).mono ?_; rintro e w' ⟨⟨u, rfl⟩, rfl⟩) | (go_at_call 43; refine (zeDown _ v HN.out).mono ?_; rintro e w' ⟨⟨u, rfl⟩, rfl⟩) | (go_at_call 44; refine (zeUp _ v HN.out).mono ?_; rintro e w' ⟨⟨u, rfl⟩, rfl⟩) | (go_at_call 42; refine (zeTake _ v HN.out _).mono ?_; rintro e w' ⟨rfl, rfl⟩) | (go_at_call 45; refine (zeWaiting _ v HN.out).mono ?_; rintro e w' ⟨rfl, rfl⟩) | (go_at_call 48; refine (zeSent _ v HN.out).mono ?_; rintro e w' ⟨rfl, rfl⟩) | (go_at_call 46; refine (zeTaken _ v HN.out).mono ?_; rintro e w' ⟨rfl, rfl⟩) | (go_at_call 49; refine (zeFaults _ v HN.out).mono ?_; rintro e w' ⟨rfl, rfl⟩) | (go_at_call 50; refine (zeHealthy _ v HN.out).mono ?_; rintro e w' ⟨rfl, rfl⟩))
      go_roundw
      case rel => exact ⟨k + 1, by omega, by go_num, HR.out⟩
      case measure => simp [intOf]; omega
    · have hk2 : k = 2 := by omega
      subst hk2
      have HR := Lib.hid hR
      clear hR
      go_wp2_with fail
      go_ret
      exact ⟨rfl, HR.out.hb⟩

end Go.Proofs.Yteggpdhkpmkldaa
