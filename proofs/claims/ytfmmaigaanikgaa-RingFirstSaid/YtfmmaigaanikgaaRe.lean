import Derived.Test.YtfmmaigaanikgaaRc
namespace Go.Proofs.Ytfmmaigaanikgaa
open Go.RowKit

theorem RSPush_any (w : World) (b R : Nat) (xs : List ByteArray) (x : ByteArray) (h : ∃ first arr, RSAt w b (b - 1) R first xs arr) :
    Calls Try.prog 34 #[.pointer (some ⟨b, 0, none⟩), .string x] w fun e w' => ∃ n : Int, e = .returned (.int .i64 n) ∧ ∃ first arr q, RSAt w' b (b - 1) R first q arr ∧ Mods (fun k => k = b ∨ k = b - 1) w w' ∧ ((n = 0 ∧ q = xs ++ [x]) ∨ (n = 40 ∧ q = xs ∧ xs.length = R)) := by
  obtain ⟨first, arr, h⟩ := h
  by_cases hlt : xs.length < R
  · exact (RSPush_ok w b _ R first xs arr x h hlt).mono fun e w' ⟨he, arr', h1, h2⟩ => ⟨0, he, first, arr', _, h1, h2, .inl ⟨rfl, rfl⟩⟩
  · have hR : xs.length = R := by have := h.hx; omega
    exact (RSPush_full w b _ R first xs arr x h hR).mono fun e w' ⟨he, k, hw⟩ => by subst hw; exact ⟨40, he, first, arr, _, h.drewN k, (Mods.refl _ _).drewN k, .inr ⟨rfl, rfl, hR⟩⟩
theorem RSPop_any (w : World) (b R : Nat) (xs : List ByteArray) (h : ∃ first arr, RSAt w b (b - 1) R first xs arr) :
    Calls Try.prog 36 #[.pointer (some ⟨b, 0, none⟩)] w fun e w' => ∃ (n : Int) (x : ByteArray), e = .returned (.tuple #[.string x, .int .i64 n]) ∧ ∃ first arr q, RSAt w' b (b - 1) R first q arr ∧ Mods (fun k => k = b ∨ k = b - 1) w w' ∧ ((n = 0 ∧ xs = x :: q) ∨ (n = 50 ∧ q = xs)) := by
  obtain ⟨first, arr, h⟩ := h
  cases xs with
  | nil => exact (RSPop_empty w b _ R first arr h).mono fun e w' ⟨he, hw⟩ => by subst hw; exact ⟨50, _, he, first, arr, _, h, Mods.refl _ _, .inr ⟨rfl, rfl⟩⟩
  | cons x q => exact (RSPop_some w b _ R first x q arr h).mono fun e w' ⟨he, f, a, h1, h2⟩ => ⟨0, x, he, f, a, q, h1, h2, .inl ⟨rfl, rfl⟩⟩

set_option maxHeartbeats 400000 in
set_option maxRecDepth 100000 in
theorem ringFirst_out (w : World) (room pops : Int) (A : Option Addr) (n c : Nat) (h9 : n ≤ 9223372036854775807) (h : room < 1 ∨ 100 < room ∨ 100 < n ∨ pops < 0) :
    Calls Try.prog 9 #[.int .i64 room, .slice A n c, .int .i64 pops] w fun e w' => e = .returned (.bool true) ∧ Below w.heap.size w w' := by
  by_cases h1 : room < 1
  · clear h
    go_enter Try.func9, Try.ntmps9
    go_wp2_with (go_at_call 32; refine (awake05 _).mono ?_; rintro e w' ⟨rfl, hbw⟩)
    go_ret
    exact ⟨rfl, hbw⟩
  replace h := h.resolve_left h1
  by_cases h2 : 100 < room
  · clear h
    go_enter Try.func9, Try.ntmps9
    go_wp2_with (go_at_call 32; refine (awake05 _).mono ?_; rintro e w' ⟨rfl, hbw⟩)
    go_ret
    exact ⟨rfl, hbw⟩
  replace h := h.resolve_left h2
  by_cases h3 : 100 < n
  · clear h
    go_enter Try.func9, Try.ntmps9
    go_wp2_with (go_at_call 32; refine (awake05 _).mono ?_; rintro e w' ⟨rfl, hbw⟩)
    go_ret
    exact ⟨rfl, hbw⟩
  replace h := h.resolve_left h3
  go_enter Try.func9, Try.ntmps9
  go_wp2_with (go_at_call 32; refine (awake05 _).mono ?_; rintro e w' ⟨rfl, hbw⟩)
  go_ret
  exact ⟨rfl, hbw⟩

def lenOf : Value → Nat
  | .slice _ n _ => n
  | _ => 0

/-- Loop 1 at round k. -/
def FLoop (B b R : Nat) (w wr : World) (iv ov : Value) (k : Nat) : Prop := ∃ q I O : List ByteArray, FP B b R w wr iv ov q I O ∧ I = O ++ q ∧ I.length ≤ k

set_option maxHeartbeats 2000000 in
set_option maxRecDepth 100000 in
theorem ringFirst_in (w : World) (R : Nat) (pops : Int) (A : Option Addr) (n c : Nat) (l : List ByteArray) (hr : Rd w A n 1 (l.map Value.string)) (hl : l.length = n) (h1 : n ≤ 100) (h2 : 1 ≤ R) (h3 : R ≤ 100) (h4 : 0 ≤ pops) :
    Calls Try.prog 9 #[.int .i64 R, .slice A n c, .int .i64 pops] w fun e w' => e = .returned (.bool true) ∧ Below w.heap.size w w' := by
  obtain ⟨i0, hi0, hz0, hz1, hz2⟩ := info_parts RSInfo
  have HI := Lib.hid hi0
  have HZ0 := Lib.hid hz0
  have HZ1 := Lib.hid hz1
  have HZ2 := Lib.hid hz2
  clear hi0 hz0 hz1 hz2
  have HR := Lib.hid hr
  have HL := Lib.hid hl
  clear hr hl
  go_enter Try.func9, Try.ntmps9
  go_wp2_with fail
  refine (awake05 _).mono ?_
  rintro e w1 ⟨rfl, hbw⟩
  go_wp2_with fail
  refine (RSNew_yes _ R h2 (by omega)).mono ?_
  rintro e w2 ⟨rfl, hO, hb2⟩
  go_wp2_with fail
  have hP : FLoop w.heap.size (w1.heap.size + 1) R w w2 (.slice none 0 0) (.slice none 0 0) 0 := ⟨[], [], [], ⟨⟨_, _, hO⟩, own_nil _ _ _ _, own_nil _ _ _ _, by simp [Value.ownBlock], hbw.trans (hb2.mono hbw.size), by have := hbw.size; omega, by have := hO.ho.lt; omega⟩, rfl, by simp⟩
  clear hO hb2 hbw
  generalize w1.heap.size + 1 = b at *
  clear w1
  go_loopw [9, 10, 45] (fun iv ov i wr => ∃ (k : Nat), k ≤ n ∧ i = .int .i64 k ∧ FLoop w.heap.size b R w wr iv ov k) (fun _ _ i _ => n - (intOf i).toNat)
  case atStart => exact ⟨0, by omega, rfl, hP⟩
  case round =>
    clear hP
    obtain ⟨k, hk, rfl, q, I, O, hP, hI, hIk⟩ := hrel
    obtain ⟨Ai, ci, rfl, hRi, hci, hci9⟩ := own_shape hP.hi
    obtain ⟨Ao, co, rfl, hRo, hco, hco9⟩ := own_shape hP.ho
    by_cases hlt : k < n
    · obtain ⟨t, ht⟩ : ∃ t, l[k]? = some t := ⟨_, List.getElem?_eq_getElem (by have := HL.out; omega)⟩
      obtain ⟨g, off, hA, hbl, hcell⟩ := HR.out.2.2 (by omega)
      subst hA
      have a0 := (hP.hb.cell (p := ⟨g, off + k, none⟩) hbl).trans (hcell k (.string t) (by rw [List.getElem?_map, ht]; rfl))
      clear hcell ht
      have HP := Lib.hid hP
      have HIq := Lib.hid hI
      have HIk := Lib.hid hIk
      clear hP hI hIk hRi hRo
      go_wp2_with fail
      refine (RSPush_any _ b R q t HP.out.hr).mono ?_
      rintro e w4 ⟨x, rfl, f4, a4, q4, h4r, h4m, hx⟩
      have HP4 := Lib.hid (HP.out.turned h4r h4m)
      have HX := Lib.hid hx
      clear h4r h4m hx HP a0
      go_upto_if 53 with (fail)
      go_cut [9] (fun iv' wx => ∃ I', FP w.heap.size b R w wx iv' (.slice Ao O.length co) q4 I' O ∧ I' = O ++ q4 ∧ I'.length ≤ k + 1)
      case first =>
        rcases HX.out with ⟨rfl, hq⟩ | ⟨rfl, hq, hqR⟩
        · have HQ := Lib.hid hq
          clear hq
          have Hn3 : Hid (I.length + 1 ≤ 1000000) := by show _ ≤ _; have := HIk.out; omega
          have hs4 := HP4.out.hs
          go_wp2_with (at_builtin; refine append1 rfl (.tmp 54) (.tmp 56) 53 rfl (b + 1) 9 i0 _ 1 16 Try.underlying53 HI.out HZ0.out HZ1.out HZ2.out rfl (by decide) _ I.length _ rfl (HP4.out.alloc (.cells #[.string t] 9)).hi _ [.string t] rfl (Ob.new _ 9 [.string t]) rfl (by simp [Value.oneCell']) Hn3.out (by decide) (by simp; omega) (fun v5 w5 hown5 hg5 hat5 => ?_))
          go_meet
          exact ⟨I ++ [t], (HP4.out.alloc _).inGrown hown5 hg5 hat5, by rw [HQ.out, HIq.out, List.append_assoc], by have := HIk.out; simp; omega⟩
        · obtain ⟨f5, a5, h5⟩ := HP4.out.hr
          have HQ := Lib.hid hq
          have HQR := Lib.hid hqR
          clear hq hqR
          have H5 := Lib.hid h5
          clear h5
          go_wp2_with fail
          refine (RSRoom_any _ b _ R f5 q4 a5 H5.out).mono ?_
          rintro e w5 ⟨rfl, k5, rfl⟩
          have hz : (R : Int) - (q4.length : Int) = 0 := by rw [HQ.out, HQR.out]; omega
          rw [hz]
          go_wp2_with fail
          go_meet
          exact ⟨I, HP4.out.drewN _, by rw [HQ.out]; exact HIq.out, by have := HIk.out; omega⟩
      case rest =>
        obtain ⟨I4, hP5, hI5, hIk5⟩ := hcut
        have HP5 := Lib.hid hP5
        have HI5 := Lib.hid hI5
        have HIk5 := Lib.hid hIk5
        clear hP5 hI5 hIk5 HX HP4 HIq HIk
        by_cases hp : (k : Int) % 5 < pops % 6
        · go_wp2_with fail
          refine (RSPop_any _ b R q4 HP5.out.hr).mono ?_
          rintro e w6 ⟨x6, y, rfl, f6, a6, q6, h6r, h6m, hx6⟩
          have HP6 := Lib.hid (HP5.out.turned h6r h6m)
          clear h6r h6m HP5
          rcases hx6 with ⟨rfl, hq⟩ | ⟨rfl, hq⟩
          · have HQ := Lib.hid hq
            clear hq
            have hOl : O.length + 1 ≤ 1000000 := by have h1 := HI5.out; have h2 := HIk5.out; rw [h1, List.length_append] at h2; omega
            have Hn3 : Hid (O.length + 1 ≤ 1000000) := hOl
            clear hOl
            have hs4 := HP6.out.hs
            go_wp2_with (at_builtin; refine append1 rfl (.tmp 73) (.tmp 75) 53 rfl (b + 1) 9 i0 _ 1 16 Try.underlying53 HI.out HZ0.out HZ1.out HZ2.out rfl (by decide) _ O.length _ rfl (HP6.out.alloc (.cells #[.string y] 9)).ho _ [.string y] rfl (Ob.new _ 9 [.string y]) rfl (by simp [Value.oneCell']) Hn3.out (by decide) (by simp; omega) (fun v5 w5 hown5 hg5 hat5 => ?_))
            go_roundw
            case rel => exact ⟨k + 1, by omega, by go_num, q6, I4, O ++ [y], (HP6.out.alloc _).outGrown hown5 hg5 hat5, by rw [HI5.out, HQ.out]; simp, HIk5.out⟩
            case measure => simp [intOf]; omega
          · have HQ := Lib.hid hq
            clear hq
            go_wp2_with fail
            go_roundw
            case rel => exact ⟨k + 1, by omega, by go_num, q6, I4, O, HP6.out, by rw [HI5.out, HQ.out], HIk5.out⟩
            case measure => simp [intOf]; omega
        · go_wp2_with fail
          go_roundw
          case rel => exact ⟨k + 1, by omega, by go_num, q4, I4, O, HP5.out, HI5.out, HIk5.out⟩
          case measure => simp [intOf]; omega
    · have HP := Lib.hid hP
      have HIq := Lib.hid hI
      have HIk := Lib.hid hIk
      clear hP hI hRi hRo
      have hIl : I.length ≤ 100 := by omega
      clear hIk
      have hOI : O.length ≤ I.length := by rw [HIq.out]; simp
      have hP2 : ∃ q2 O2, FP w.heap.size b R w wr (.slice Ai I.length ci) (.slice Ao O.length co) q2 I O2 ∧ I = O2 ++ q2 := ⟨q, O, HP.out, HIq.out⟩
      have HP2 := Lib.hid hP2
      clear hP2
      generalize hni : I.length = ni at *
      have HNI := Lib.hid hni
      clear hni
      go_wp2_with fail
      go_loopw [10] (fun ov wr => ∃ q2 O2, FP w.heap.size b R w wr (.slice Ai ni ci) ov q2 I O2 ∧ I = O2 ++ q2) (fun ov _ => ni - lenOf ov)
      case atStart => exact HP2.out
      case round =>
        clear HP HIq HIk HP2 hOI
        obtain ⟨q2, O2, hP, hI⟩ := hrel
        obtain ⟨Ap, cp, rfl, hRo, hcp, hcp9⟩ := own_shape hP.ho
        obtain ⟨f2, arr2, hr2⟩ := hP.hr
        have hRi0 := hP.hi
        rw [HNI.out] at hRi0
        have hRi := Rd.of_own hRi0
        clear hRi0
        have hls : O2.length + q2.length = ni := by rw [← HNI.out, hI]; simp
        cases q2 with
        | nil =>
          have HP := Lib.hid hP
          have HRi := Lib.hid hRi
          have HRo := Lib.hid hRo
          have HRr := Lib.hid hr2
          have hIO : I = O2 := by rw [hI]; simp
          have HIO := Lib.hid hIO
          have hll : O2.length = ni := hls
          have HLL := Lib.hid hls
          clear hP hRi hRo hr2 hIO hI hls
          generalize O2.length = no at *
          subst hll
          have hrm : (R : Int) - (([] : List ByteArray).length : Int) = R := by simp
          go_wp2_with fail
          refine (RSLen_any _ b _ R f2 [] arr2 HRr.out).mono ?_
          rintro e w' ⟨rfl, rfl⟩
          go_wp2_with fail
          refine (RSRoom_any _ b _ R f2 [] arr2 HRr.out).mono ?_
          rintro e w' ⟨rfl, k6, rfl⟩
          rw [hrm]
          have HB := Lib.hid (Below.drewN HP.out.hb k6)
          clear HP HRr hrm
          go_wp2_with fail
          go_loop [112] (fun i => ∃ k : Nat, k ≤ no ∧ i = .int .i64 k) (fun i => no - (intOf i).toNat)
          case atStart => exact ⟨0, by omega, rfl⟩
          case round =>
            obtain ⟨i, hi, rfl⟩ := hrel
            by_cases hilt : i < no
            · obtain ⟨t, ht⟩ : ∃ t, O2[i]? = some t := ⟨_, List.getElem?_eq_getElem (by have := HNI.out; rw [HIO.out] at this; omega)⟩
              obtain ⟨g1, off1, hA1, hbl1, hcell1⟩ := HRi.out.2.2 (by omega)
              obtain ⟨g2, off2, hA2, hbl2, hcell2⟩ := HRo.out.2.2 (by omega)
              subst hA1 hA2
              have a1 := hcell1 i (.string t) (by rw [HIO.out, List.getElem?_map, ht]; rfl)
              have a2 := hcell2 i (.string t) (by rw [List.getElem?_map, ht]; rfl)
              clear hcell1 hcell2 ht
              go_wp2_with fail
              go_round
              case rel => exact ⟨i + 1, by omega, by go_num⟩
              case measure => simp [intOf]; omega
            · go_wp2_with fail
              go_ret
              exact ⟨rfl, HB.out⟩
        | cons y q3 =>
          have HIc := Lib.hid hI
          have HP := Lib.hid hP
          have HLS := Lib.hid hls
          have hlp : decide ((0 : Int) < ((y :: q3).length : Int)) = true := by simp
          have hon : ¬ ni < O2.length := by omega
          have HRr := Lib.hid hr2
          clear hI hP hls hRi hRo hr2
          go_wp2_with fail
          refine (RSLen_any _ b _ R f2 (y :: q3) arr2 HRr.out).mono ?_
          rintro e w' ⟨rfl, rfl⟩
          go_wp2_with fail
          refine (RSPop_some _ b _ R f2 y q3 arr2 HRr.out).mono ?_
          rintro e w6 ⟨rfl, f6, a6, h6r, h6m⟩
          have HP6 := Lib.hid (HP.out.turned h6r h6m)
          clear h6r h6m HP HRr hlp
          have Hn3 : Hid (O2.length + 1 ≤ 1000000) := by show _ ≤ _; have := HLS.out; simp at this; omega
          have hs4 := HP6.out.hs
          go_wp2_with (at_builtin; refine append1 rfl (.tmp 95) (.tmp 97) 53 rfl (b + 1) 9 i0 _ 1 16 Try.underlying53 HI.out HZ0.out HZ1.out HZ2.out rfl (by decide) _ O2.length _ rfl (HP6.out.alloc (.cells #[.string y] 9)).ho _ [.string y] rfl (Ob.new _ 9 [.string y]) rfl (by simp [Value.oneCell']) Hn3.out (by decide) (by simp; omega) (fun v5 w5 hown5 hg5 hat5 => ?_))
          go_roundw
          case rel =>
            have h := (HP6.out.alloc _).outGrown hown5 hg5 hat5
            exact ⟨q3, O2 ++ [y], h, by rw [HIc.out]; simp⟩
          case measure =>
            obtain ⟨A', c', rfl, -⟩ := own_shape hown5
            have := HLS.out
            simp [lenOf] at *
            omega

set_option maxRecDepth 100000 in
theorem ringFirst_walk (w : World) (room : Int) (A : Option Addr) (n c : Nat) (l : List ByteArray) (hr : Rd w A n 1 (l.map Value.string)) (hl : l.length = n) (pops : Int) :
    Calls Try.prog 9 #[.int .i64 room, .slice A n c, .int .i64 pops] w fun e w' => e = .returned (.bool true) ∧ Below w.heap.size w w' := by
  by_cases h : room < 1 ∨ 100 < room ∨ 100 < n ∨ pops < 0
  · exact ringFirst_out w room pops A n c hr.2.1 h
  · obtain ⟨R, rfl⟩ : ∃ R : Nat, room = R := ⟨room.toNat, by omega⟩
    exact ringFirst_in w R pops A n c l hr hl (by omega) (by omega) (by omega) (by omega)

end Go.Proofs.Ytfmmaigaanikgaa
