import Derived.Test.YtjhlaifflhjafaaOe
import Derived.Carry
namespace Go.Proofs.Ytjhlaifflhjafaa
open Go.RowKit Go.Maps

theorem metK {K : Act → World → Prop} : ∀ a w, Met K a w → K a w := fun _ _ h => h
theorem limUp_len (l : SlO) (x : MOp) (e : Int) : (limUp l x e).length ≤ l.length + 1 := by
  unfold limUp
  split
  · rw [lenO_put]; split <;> omega
  · split
    · rw [lenO_put]; split <;> omega
    · omega

set_option maxHeartbeats 16000000 in
set_option maxRecDepth 100000 in
theorem matchKeeps_walk (w : World) (A : Option Addr) (n c : Nat) (ops : List MOp) (hr : Rd w A n 5 (ops.flatMap maCells)) (hl : ops.length = n) :
    Calls Try.prog 14 #[.slice A n c] w fun e w' => e = .returned (.bool true) ∧ Below w.heap.size w w' := by
  have h9 := hr.2.1
  have HR := Lib.hid hr
  have HL := Lib.hid hl
  clear hr hl
  have hmm := @run_makeMap Try.prog
  go_enter Try.func14, Try.ntmps14
  go_wp2_with fail
  refine (awake32 _).mono ?_
  rintro e w1 ⟨rfl, hb1⟩
  have hs1 := hb1.size
  go_wp2_with fail
  refine (few43 w1 A n c ops (HR.out.below hb1) HL.out 60).mono ?_
  obtain ⟨fb, hfb⟩ : ∃ fb, fewM ops 60 = fb := ⟨_, rfl⟩
  rw [hfb]
  rintro e w2 ⟨rfl, hb2⟩
  have hB2 := hb1.trans (hb2.mono hs1)
  have HB2 := Lib.hid hB2
  have HFB := Lib.hid hfb
  clear hfb hb1 hb2 hB2
  cases fb with
  | false =>
    go_wp2_with fail
    go_ret
    exact ⟨rfl, HB2.out⟩
  | true =>
  have hs2 := HB2.out.size
  go_wp2_with fail
  refine (mo33 w2).mono ?_
  rintro e w3 ⟨rfl, hm3, hb3⟩
  have hU : KeAt w (w3.alloc (.map #[] 0)) w2.heap.size w3.heap.size ([], []) [] := by
    have hB3 := HB2.out.trans (hb3.mono HB2.out.size)
    refine ⟨⟨_, _, hm3.below (Below.alloc (Below.refl _ _) (Nat.le_refl _) _), fun k hk e => ?_⟩, MqAt.made w3, hB3.alloc hB3.size _, hs2, hB3.size⟩
    have := (hm3.lt hk).2
    omega
  clear hm3 hb3 HB2
  generalize w2.heap.size = mb at *
  go_upto_region 7 with (fail)
  refine cutW (fun W => KeAt w W mb w3.heap.size ([], []) []) hU ?_
  clear hU hmm
  generalize w3.heap.size = gm at *
  intro W hU
  have HU := Lib.hid hU
  clear hU
  go_wp2_with fail
  go_loopw [28] (fun i wx => ∃ (k : Nat) (S : Sd) (l : SlO), k ≤ n ∧ i = .int .i64 k ∧ KeAt w wx mb gm S l ∧ KpI S l ∧ SzI S ∧ l.length ≤ k) (fun i _ => n - (intOf i).toNat)
  case atStart => exact ⟨0, _, _, by omega, rfl, HU.out, KpI.empty, fun y hy => (by cases hy), by simp⟩
  case round =>
    clear HU
    obtain ⟨k, S, l, hk, rfl, hU, hI, hZ, hlk⟩ := hrel
    have HU := Lib.hid hU
    have HI := Lib.hid hI
    have HZ := Lib.hid hZ
    clear hU hI hZ
    by_cases hlt : k < n
    · obtain ⟨x, hx⟩ : ∃ x, ops[k]? = some x := ⟨_, List.getElem?_eq_getElem (by have := HL.out; omega)⟩
      obtain ⟨ga, off, hA, hbl, hcell⟩ := mop_cells HR.out hlt hx
      subst hA
      have hsz : x.2.1.size ≤ 100 := by
        have hf := HFB.out
        unfold fewM at hf
        simp only [Bool.and_eq_true] at hf
        have := List.all_eq_true.1 hf.1 x (List.mem_of_getElem? hx)
        simpa [okMa] using this
      obtain ⟨kd, nm, sd, qt, pr⟩ := x
      have a : ∀ j, j < 5 → wr.cell? ⟨ga, off + k * 5 + j, none⟩ = [Value.int .i64 kd, .string nm, .int .i64 sd, .int .i64 qt, .int .i64 pr][j]? := fun j hj => (HU.out.hB.cell (p := ⟨ga, off + k * 5 + j, none⟩) hbl).trans (hcell j hj)
      have a0 : wr.cell? ⟨ga, off + k * 5, none⟩ = some (.int .i64 kd) := a 0 (by omega)
      have a1 : _ = some _ := a 1 (by omega)
      have a2 : _ = some _ := a 2 (by omega)
      have a3 : _ = some _ := a 3 (by omega)
      have a4 : _ = some _ := a 4 (by omega)
      clear hcell a hx
      simp only at hsz
      go_upto_region 10 with (fail)
      have hO := Ob.new wr 90 [.int .i64 kd, .string nm, .int .i64 sd, .int .i64 qt, .int .i64 pr]
      have hmN : ∀ j, MbS mb (.slice none 0 0) (.slice none 0 0) j → True := fun _ _ => trivial
      refine cutW (fun W => Ob W wr.heap.size 90 [.int .i64 kd, .string nm, .int .i64 sd, .int .i64 qt, .int .i64 pr] ∧ KeAt w W mb gm S l ∧ (∃ v0 v1, MbAt W mb v0 v1 S ∧ (∀ j, MbS mb v0 v1 j → j ≠ gm ∧ j ≠ wr.heap.size)) ∧ gm ≠ wr.heap.size) ⟨hO, HU.out.below Below.alloc_set, (by
        obtain ⟨v0, v1, h1, h2⟩ := HU.out.hb
        exact ⟨v0, v1, h1.below Below.alloc_set, fun j hj => ⟨h2 j hj, by have := (h1.lt hj).2; omega⟩⟩), (by have := HU.out.hm.lt; omega)⟩ ?_
      have HwN := Lib.hid HU.out.hB.size
      clear hO HU a0 a1 a2 a3 a4 hmN
      generalize wr.heap.size = N at *
      rintro V ⟨hO, hU, ⟨v0, v1, hmb, hmk⟩, hgN⟩
      have hoc := hO.cell
      have HO := Lib.hid hO
      have HU := Lib.hid hU
      have HMb := Lib.hid hmb
      have HMk := Lib.hid hmk
      clear hO hU hmb hmk
      by_cases hq : 1099511627776 < qt ∨ qt < 0
      · rcases (show 1099511627776 < qt ∨ (¬ 1099511627776 < qt ∧ qt < 0) by omega) with q1 | ⟨q1, q2⟩
        · clear hq
          go_wp2_with fail
          go_ret
          exact ⟨rfl, HU.out.hB⟩
        · clear hq
          go_wp2_with fail
          go_ret
          exact ⟨rfl, HU.out.hB⟩
      have q1 : ¬ 1099511627776 < qt := by omega
      have q2 : ¬ qt < 0 := by omega
      clear hq
      go_wp2_with fail
      refine (rests51 V mb v0 v1 S HMb.out HI.out.i).mono ?_
      rintro e w4 ⟨rfl, hb4⟩
      have hO4 := HO.out.below hb4 HO.out.lt
      have hoc4 := hO4.cell
      have HO4 := Lib.hid hO4
      have HM4 := Lib.hid (HMb.out.below hb4)
      have HU4 := Lib.hid (HU.out.below hb4)
      clear hoc hO4 hb4 HO HMb HU
      go_wp2_with fail
      refine (mo48 w4 mb v0 v1 S HM4.out nm).mono ?_
      rintro e w5 ⟨rfl, hb5⟩
      have hO5 := HO4.out.below hb5 HO4.out.lt
      have hoc5 := hO5.cell
      have HO5 := Lib.hid hO5
      have HM5 := Lib.hid (HM4.out.below hb5)
      have HU5 := Lib.hid (HU4.out.below hb5)
      clear hoc4 hO5 hb5 HO4 HM4 HU4
      go_wp2_with fail
      refine (do50 w5 mb v0 v1 S HM5.out HI.out.i kd nm sd qt pr).mono ?_
      have HKR := Lib.hid (HI.out.step (kd, nm, sd, qt, pr))
      have HZ2 := Lib.hid (HZ.out.step (kd, nm, sd, qt, pr) hsz)
      have HTD := Lib.hid (tr_do HI.out.i.ok (kd, nm, sd, qt, pr))
      generalize doM S (kd, nm, sd, qt, pr) = D at *
      obtain ⟨⟨ts, gone, er⟩, S2⟩ := D
      rintro e w6 ⟨vt, rfl, hown, hto⟩
      have hU6 := HU5.out.to HM5.out (fun j hj => (HMk.out j hj).1) hto
      obtain ⟨u0, u1, hm6, hM6, hf6⟩ := hto
      have hO6 := HO5.out.mods hM6 (fun hk => (HMk.out _ hk).2 rfl)
      obtain ⟨At, ct, rfl, -, -, -⟩ := own_shape hown
      have hNl := HO5.out.lt
      have hgl := HU5.out.hm.lt
      have hK6 : KwAt w w6 mb gm N (w5.heap.size + 1) S2 l [.int .i64 kd, .string nm, .int .i64 sd, .int .i64 qt, .int .i64 pr] (.slice At ts.length ct) ts.length (ts.flatMap trC) :=
        ⟨hU6, ⟨u0, u1, hm6, fun j hj => by
          rcases hf6 j hj with h3 | h3
          · exact HMk.out j h3
          · exact ⟨by omega, by omega⟩⟩, hO6, hown, hgN, by omega, by omega, HwN.out⟩
      clear hgN hNl hgl hU6 hm6 hM6 hf6 hO6 hown hoc5 HO5 HM5 HU5
      generalize hBB : w5.heap.size + 1 = B at *
      clear hBB
      have hE := HKR.out.er
      have hKp2 := HKR.out.kp
      have hSm := HKR.out.sm
      have hTr := HKR.out.tr
      have hQ := HKR.out.q
      have hLn := HKR.out.ln
      simp only at hE hKp2 hSm hTr hQ hLn
      have HTD2 := HTD.out
      simp only at HTD2
      have HTD2 := Lib.hid HTD2
      have HZ3 := HZ2.out
      simp only at HZ3
      have HZ3 := Lib.hid HZ3
      have HE := Lib.hid hE
      have HKp2 := Lib.hid hKp2
      have HSm := Lib.hid hSm
      have HTr := Lib.hid hTr
      have HQ := Lib.hid hQ
      have HLn := Lib.hid hLn
      clear hE hKp2 hSm hTr hQ hLn HZ2 HTD HKp2 HSm HTr HQ HLn
      have HK := Lib.hid hK6
      have hoc6 := hK6.ob.cell
      clear hK6
      go_upto_region 15 with (fail)
      go_cut [72] (fun v Z => v = .bool false ∧ KwAt w Z mb gm N B S2 l [.int .i64 kd, .string nm, .int .i64 sd, .int .i64 qt, .int .i64 pr] (.slice At ts.length ct) ts.length (ts.flatMap trC))
      case first =>
        by_cases he : er = 0
        · have d1 : (er != 0) = false := by simp [he]
          clear he
          go_wp2_with fail
          go_meet
          exact ⟨rfl, HK.out⟩
        · have d1 : (er != 0) = true := by simp [he]
          obtain ⟨e1, e2, e3⟩ := HE.out he
          subst e1
          obtain ⟨u0, u1, hm6, -⟩ := HK.out.mb
          have h51 := rests51 w6 mb u0 u1 S2 hm6 (by rw [e3]; exact HI.out.i)
          have d3 : (gone != 0) = false := by rw [e2]; rfl
          rw [e3] at h51
          have H51 := Lib.hid h51
          have hss : (sumS S != sumS S) = false := by simp
          clear he e2 e3 h51 hm6
          go_wp2_with (go_at_call 51; refine H51.out.mono ?_; rintro e w7 ⟨rfl, hb7⟩)
          go_meet
          exact ⟨rfl, HK.out.below hb7⟩
      case rest =>
      obtain ⟨rfl, hK⟩ := hcut
      clear HK hoc6
      have HK := Lib.hid hK
      clear hK
      go_upto_if 72 with (fail)
      go_cut [] (fun Z => KwAt w Z mb gm N B S2 l [.int .i64 kd, .string nm, .int .i64 sd, .int .i64 qt, .int .i64 pr] (.slice At ts.length ct) ts.length (ts.flatMap trC))
      case first =>
        go_wp2_with fail
        go_meet
        exact HK.out
      case rest =>
      clear HK
      have HK := Lib.hid hcut
      clear hcut
      have hF : KeF n k S S2 l kd nm sd qt pr ts gone er := ⟨HKR.out, HI.out, HZ.out, HTD2.out, hsz, hlk, hlt, h9, by omega, by omega⟩
      have hlim := limUp_len l (kd, nm, sd, qt, pr) er
      have HFF := Lib.hid hF
      have HLim := Lib.hid hlim
      clear hF hlim
      refine takeK (c := keC17) (by assumption) ?_
      refine keRest metK w _ mb gm N B ts.length ct n k At S S2 l kd nm sd qt pr gone er ts rfl HFF.out HK.out _ _ _ _ _ _ _ _ _ _ _ _ _ _ _ _ _ _ _ _ _ _ _ _ _ _ _ _ _ _ _ _ _ _ _ _ _ _ _ _ _ _ _ _ _ _ _ _ _ _ _ _ _ _ _ _ _ _ _ _ _ _ _ _ _ _ _ _ _ _ _ _ _ _ _ _ _ _ _ _ _ _ _ _ _ _ _ _ _ _ _ _ _ _ _ _ _ _ _ _ _ _ _ _ _ _ _ _ _ _ _ _ _ _ _ _ _ _ _ _ _ _ _ _ _ _ _ _ _ _ _ _ _ _ _ _ _ _ _ _ _ _ _ _ _ _ _ _ _ _ _ _ _ _ _ _ _ _ _ _ _ _ _ _ _ _ _ _ _ _ _ _ _ _ _ _ _ _ _ _ _ _ _ _ _ _ _ _ ?_
      · intro _ _ _ _ _ _ _ _ _ _ _ _ _ _ _ _ _ _ _ _ _ _ _ _ _ _ _ _ _ _ _ _ _ _ _ _ _ _ _ _ _ _ _ _ _ _ _ _ _ _ _ _ _ _ _ _ _ _ _ _ _ _ _ _ _ _ _ _ _ _ _ _ _ _ _ _ _ _ _ _ _ _ _ _ _ _ _ _ _ _ _ _ _ _ _ _ _ _ _ _ _ _ _ _ _ _ _ _ _ _ _ _ _ _ _ _ _ _ _ _ _ _ _ _ _ _ _ _ _ _ _ _ _ _ _ _ _ _ _ _ _ _ _ _ _ _ _ _ _ _ _ _ _ _ _ _ _ _ _ _ _ _ _ _ _ _ _ _ _ _ _ _ _ Z sd' hZ
        go_wp2_with fail
        go_roundw
        case rel =>
          refine ⟨k + 1, S2, _, by omega, by go_num, hZ.ke, HFF.out.r.kp, HZ3.out, ?_⟩
          have := HLim.out
          omega
        case measure => simp [intOf]; omega
    · obtain rfl : k = n := by omega
      go_wp2_with fail
      go_ret
      exact ⟨rfl, HU.out.hB⟩

end Go.Proofs.Ytjhlaifflhjafaa
