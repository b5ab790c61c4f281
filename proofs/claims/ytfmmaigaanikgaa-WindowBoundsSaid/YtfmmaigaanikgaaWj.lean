import Derived.Test.YtfmmaigaanikgaaWi
import Derived.Test.YtfmmaigaanikgaaWh
import Derived.Test.YtfmmaigaanikgaaSz
namespace Go.Proofs.Ytfmmaigaanikgaa
open Go.RowKit

set_option maxHeartbeats 400000 in
set_option maxRecDepth 100000 in
theorem windowBounds_out (w : World) (wd mo : Int) (A : Option Addr) (n c : Nat) (h9 : n ≤ 9223372036854775807) (h : 200 < n ∨ WinNo wd mo) :
    Calls Try.prog 10 #[.int .i64 wd, .int .i64 mo, .slice A n c] w fun e w' => e = .returned (.bool true) ∧ Below w.heap.size w w' := by
  by_cases h1 : 200 < n
  · clear h
    go_enter Try.func10, Try.ntmps10
    go_wp2_with (go_at_call 38; refine (awake06 _).mono ?_; rintro e w' ⟨rfl, hbw⟩)
    go_ret
    exact ⟨rfl, hbw⟩
  have h2 : WinNo wd mo := h.resolve_left h1
  clear h
  go_enter Try.func10, Try.ntmps10
  go_wp2_with (first | (go_at_call 38; refine (awake06 _).mono ?_; rintro e w' ⟨rfl, hbw⟩) | (go_at_call 39; refine (wNew_no _ _ _ h2).mono ?_; rintro e w' ⟨rfl, rfl⟩))
  go_ret
  exact ⟨rfl, hbw⟩

/-- Loop 1 at round k: the window, and the list of what was taken. -/
def BPlay (B b : Nat) (w wr : World) (wd mo : Int) (tv : Value) (k : Nat) : Prop :=
  ∃ (v : Value) (ts tk : List Int), WPlay B b w wr wd mo v ts ∧ TkInv wd mo.toNat tk ts ∧ wr.ownsRow (b + 1) 3 1 tv tk.length (tk.map (Value.int .i64)) ∧ (∀ i, v.ownBlock = some i → tv.ownBlock ≠ some i) ∧ tk.length ≤ k

set_option maxHeartbeats 2000000 in
set_option maxRecDepth 100000 in
theorem windowBounds_in (w : World) (wd mo : Int) (A : Option Addr) (n c : Nat) (l : List Int) (hr : Rd w A n 1 (l.map (Value.int .i64))) (hl : l.length = n) (h1 : n ≤ 200) (h2 : ¬ WinNo wd mo) :
    Calls Try.prog 10 #[.int .i64 wd, .int .i64 mo, .slice A n c] w fun e w' => e = .returned (.bool true) ∧ Below w.heap.size w w' := by
  obtain ⟨i0, hi0, hz0, hz1, hz2⟩ := info_parts info3
  have HI := Lib.hid hi0
  have HZ0 := Lib.hid hz0
  have HZ1 := Lib.hid hz1
  have HZ2 := Lib.hid hz2
  clear hi0 hz0 hz1 hz2
  have HR := Lib.hid hr
  have HL := Lib.hid hl
  have H2 := Lib.hid h2
  clear hr hl h2
  go_enter Try.func10, Try.ntmps10
  go_wp2_with fail
  refine (awake06 _).mono ?_
  rintro e w1 ⟨rfl, hbw⟩
  go_wp2_with fail
  refine (wNew_yes _ wd mo H2.out).mono ?_
  rintro e w2 ⟨rfl, hO, hb2, hz⟩
  go_wp2_with fail
  have hP : BPlay w.heap.size w1.heap.size w w2 wd mo (.slice none 0 0) 0 := ⟨_, [], [], ⟨hO, List.Pairwise.nil, hbw.size, by omega, hbw.trans (hb2.mono hbw.size)⟩, TkInv.nil _ _, own_nil _ _ _ _, by simp [Value.ownBlock], by simp⟩
  clear hO hb2 hz hbw
  generalize w1.heap.size = b at *
  clear w1
  go_loopw [9, 34] (fun tv i wr => ∃ (k : Nat), k ≤ n ∧ i = .int .i64 k ∧ BPlay w.heap.size b w wr wd mo tv k) (fun _ i _ => n - (intOf i).toNat)
  case atStart => exact ⟨0, by omega, rfl, hP⟩
  case round =>
    clear hP
    obtain ⟨k, hk, rfl, v, ts, tk, hP, hI, hown, hdis, htk⟩ := hrel
    obtain ⟨At, ct, rfl, hRt, hct, hct9⟩ := own_shape hown
    have hmo := hP.1.hm
    have hwd := hP.1.hw
    by_cases hlt : k < n
    · obtain ⟨t, ht⟩ : ∃ t, l[k]? = some t := ⟨_, List.getElem?_eq_getElem (by have := HL.out; omega)⟩
      obtain ⟨g, off, hA, hbl, hcell⟩ := HR.out.2.2 (by omega)
      subst hA
      have a0 := (hP.2.2.2.2.cell (p := ⟨g, off + k, none⟩) hbl).trans (hcell k (.int .i64 t) (by rw [List.getElem?_map, ht]; rfl))
      clear hcell ht
      have HI2 := Lib.hid hI
      have Hown := Lib.hid hown
      have Hdis := Lib.hid hdis
      have HP := Lib.hid hP
      clear hI hown hdis hRt
      by_cases hok : rightB ts t = true ∧ (cntW wd t ts : Int) < mo
      · have Hok := Lib.hid hok
        clear hok
        clear hP
        go_wp2_with fail
        refine (wTake_ok _ b _ wd mo t _ ts HP.out.1 (by omega) HP.out.2.2.2.1 Hok.out.1 Hok.out.2).mono ?_
        rintro e w4 ⟨rfl, v4, hO4, hM4, hv4⟩
        have hP4 := HP.out.took Hok.out.1 hO4 hM4
        have hown4 := own_mods Hown.out hM4 (fun i hi hs => by
          rcases hs with hs | hs
          · have := own_block Hown.out i hi; omega
          · exact Hdis.out i hs hi)
        have hdis4 : ∀ i, v4.ownBlock = some i → (Value.slice At tk.length ct).ownBlock ≠ some i := by
          intro i hi hti
          rcases hv4 with h | ⟨j, h, hj⟩
          · exact Hdis.out i (h.symm.trans hi) hti
          · rw [h] at hi
            injection hi with hi
            have := own_lt Hown.out i hti
            omega
        have hstep := HI2.out.step (t := t) (by omega) Hok.out.1 (by have := Hok.out.2; omega)
        rw [show ((mo.toNat : Nat) : Int) = mo from by omega] at hstep
        have Hd4 := Lib.hid hdis4
        have Hst := Lib.hid hstep
        have hs4 := hP4.2.2.2.1
        have HP4 := Lib.hid hP4
        have Ho4 := Lib.hid hown4
        clear hO4 hM4 hv4 hdis4 hstep hP4 hown4 a0
        have Hn3 : Hid (tk.length + 1 ≤ 1000000) := by show _ ≤ _; omega
        go_wp2_with (at_builtin; refine append1 rfl (.tmp 42) (.tmp 44) 49 rfl (b + 1) 3 i0 _ 1 8 Try.underlying49 HI.out HZ0.out HZ1.out HZ2.out rfl (by decide) _ tk.length _ rfl (Ho4.out.alloc (.cells #[.int .i64 t] 3)) _ [.int .i64 t] rfl (Ob.new _ 3 [.int .i64 t]) rfl (one1 _) Hn3.out (by decide) (by simp; omega) (fun v5 w5 hown5 hg5 hat5 => ?_))
        go_roundw
        case rel =>
          have hM5 : Mods (fun i => (Value.slice At tk.length ct).ownBlock = some i) w4 w5 := ((Mods.refl _ w4).alloc _).grown hg5 (fun i hi => .inl hi)
          refine ⟨k + 1, by omega, by go_num, v4, _, tk ++ [t], ⟨HP4.out.1.mods hM5 (fun hs => by have := own_block Ho4.out _ hs; omega) (fun i hi hs => Hd4.out i hi hs), HP4.out.2.1, HP4.out.2.2.1, Nat.le_trans HP4.out.2.2.2.1 hM5.size, Below.mods HP4.out.2.2.2.2 hM5 (fun i hi => by have := own_block Ho4.out i hi; have := HP4.out.2.2.1; omega) (by have := HP4.out.2.2.1; omega)⟩, Hst.out, ?_, ?_, by simp; omega⟩
          · rw [List.length_append, List.map_append]; exact hown5
          · intro i hi h5
            have hlt4 : i < w4.heap.size := own_lt HP4.out.1.hown i hi
            rcases hat5 with h | h
            · exact Hd4.out i hi (h.symm.trans h5)
            · rw [h] at h5
              injection h5 with h5
              simp at h5
              omega
        case measure => simp [intOf]; omega
      · obtain ⟨Av, cv, rfl, hRw, -⟩ := hP.1.r
        have hno : ∃ x : Int, x ≠ 0 ∧ ∀ W : World, (∃ d, W = wr.drewN d) → Calls Try.prog 40 #[.pointer (some ⟨b, 0, none⟩), .int .i64 t] W fun e w' => e = .returned (.int .i64 x) ∧ ∃ j, w' = W.drewN j := by
          cases hr : rightB ts t with
          | false => exact ⟨2, by decide, fun W ⟨d, hW⟩ => by subst hW; exact wTake_wrong _ b _ _ wd mo t _ ts (hRw.drewN d) hr⟩
          | true => exact ⟨60, by decide, fun W ⟨d, hW⟩ => by subst hW; exact wTake_full _ b _ _ wd mo t _ ts (hRw.drewN d) hr (by have : ¬ (cntW wd t ts : Int) < mo := fun h => hok ⟨hr, h⟩; omega)⟩
        obtain ⟨x, hx0, hx⟩ := hno
        have hxb : (x == 0) = false := by simpa using hx0
        have Hx := Lib.hid hx
        clear hx hx0 hok hRw hP
        go_wp2_with fail
        refine (Hx.out _ ⟨0, rfl⟩).mono ?_
        rintro e w3 ⟨rfl, d1, rfl⟩
        go_wp2_with fail
        go_roundw
        case rel => exact ⟨k + 1, by omega, by go_num, _, ts, tk, HP.out.drewN _, HI2.out, own_drewN Hown.out _, Hdis.out, by omega⟩
        case measure => simp [intOf]; omega
    · -- behind loop 1: nothing turns any more
      have hbW := hP.2.2.2.2
      have HI2 := Lib.hid hI
      have HRt := Lib.hid hRt
      have hlen9 : tk.length ≤ 200 := by omega
      clear hP hI hown hdis hRt
      obtain ⟨wo, rfl⟩ : ∃ wo : World, wo = wr := ⟨_, rfl⟩
      generalize hnt : tk.length = nt at *
      have HNT := Lib.hid hnt
      clear hnt
      go_wp2_with fail
      go_loop [49] (fun i => ∃ k : Nat, k ≤ nt ∧ i = .int .i64 k) (fun i => nt - (intOf i).toNat)
      case atStart => exact ⟨0, by omega, rfl⟩
      case round =>
        obtain ⟨i, hi, rfl⟩ := hrel
        by_cases hilt : i < nt
        · obtain ⟨t, ht⟩ : ∃ t, tk[i]? = some t := ⟨_, List.getElem?_eq_getElem (by have := HNT.out; omega)⟩
          obtain ⟨g, off, hA, hbl, hcell⟩ := HRt.out.2.2 (by omega)
          subst hA
          have a0 : wo.cell? ⟨g, off + i, none⟩ = some (.int .i64 t) := hcell i _ (by rw [List.getElem?_map, ht]; rfl)
          have Hcell := Lib.hid hcell
          have Ht := Lib.hid ht
          have hci : ¬ ct = i := by omega
          clear hcell ht
          go_wp2_with fail
          go_loop [14, 58] (fun cn j => ∃ k : Nat, k ≤ nt - i ∧ j = .int .i64 k ∧ cn = .int .i64 (((tk.drop i).take k).filter fun s => decide (s - t < wd)).length) (fun _ j => nt - i - (intOf j).toNat)
          case atStart => exact ⟨0, by omega, rfl, rfl⟩
          case round =>
            obtain ⟨j, hj, rfl, rfl⟩ := hrel
            by_cases hjlt : j < nt - i
            · obtain ⟨s, hs⟩ : ∃ s, tk[i + j]? = some s := ⟨_, List.getElem?_eq_getElem (by have := HNT.out; omega)⟩
              have a1 : wo.cell? ⟨g, off + i + j, none⟩ = some (.int .i64 s) := by
                rw [Nat.add_assoc]; exact Hcell.out (i + j) _ (by rw [List.getElem?_map, hs]; rfl)
              obtain ⟨q1, q2, q3⟩ := HI2.out.ge Ht.out hs
              have hsn : (((tk.drop i).take (j + 1)).filter fun s => decide (s - t < wd)).length = (((tk.drop i).take j).filter fun s => decide (s - t < wd)).length + if s - t < wd then 1 else 0 := by
                rw [List.take_add_one, List.getElem?_drop, hs, List.filter_append]
                by_cases hx : s - t < wd <;> simp [hx]
              have hle := List.length_filter_le (fun s => decide (s - t < wd)) ((tk.drop i).take j)
              have hle2 := List.length_take_le j (tk.drop i)
              have hnl : ¬ s < t := by omega
              have hng : ¬ 1099511627776 < s := by omega
              have Hsn := Lib.hid hsn
              clear hsn hs
              generalize (((tk.drop i).take j).filter fun s => decide (s - t < wd)).length = x at *
              by_cases hx : s - t < wd
              · go_wp2
                go_round
                case rel => exact ⟨j + 1, by omega, by go_num, by rw [Hsn.out, if_pos hx]; go_num⟩
                case measure => simp [intOf]; omega
              · go_wp2
                go_round
                case rel => exact ⟨j + 1, by omega, by go_num, by rw [Hsn.out, if_neg hx]; go_num⟩
                case measure => simp [intOf]; omega
            · have hbd := HI2.out.bound Ht.out
              have htk2 : (tk.drop i).take j = tk.drop i := List.take_of_length_le (by rw [List.length_drop, HNT.out]; omega)
              rw [htk2]
              generalize ((tk.drop i).filter fun s => decide (s - t < wd)).length = x at *
              have hnm : ¬ mo < (x : Int) := by omega
              clear htk2
              go_wp2
              go_round
              case rel => exact ⟨i + 1, by omega, by go_num⟩
              case measure => simp [intOf]; omega
        · go_wp2
          go_ret
          exact ⟨rfl, hbW⟩

theorem windowBounds_walk (w : World) (wd mo : Int) (A : Option Addr) (n c : Nat) (l : List Int) (hr : Rd w A n 1 (l.map (Value.int .i64))) (hl : l.length = n) :
    Calls Try.prog 10 #[.int .i64 wd, .int .i64 mo, .slice A n c] w fun e w' => e = .returned (.bool true) ∧ Below w.heap.size w w' := by
  by_cases h : 200 < n ∨ WinNo wd mo
  · exact windowBounds_out w wd mo A n c hr.2.1 h
  · exact windowBounds_in w wd mo A n c l hr hl (by omega) (fun h2 => h (.inr h2))

end Go.Proofs.Ytfmmaigaanikgaa
