import Derived.Test.YtfmmaigaanikgaaWg
namespace Go.Proofs.Ytfmmaigaanikgaa
open Go.RowKit

set_option maxHeartbeats 400000 in
set_option maxRecDepth 100000 in
theorem windowOpens_out (w : World) (wd mo : Int) (A : Option Addr) (n c : Nat) (h9 : n ≤ 9223372036854775807) (h : 100 < n ∨ WinNo wd mo) :
    Calls Try.prog 12 #[.int .i64 wd, .int .i64 mo, .slice A n c] w fun e w' => e = .returned (.bool true) ∧ Below w.heap.size w w' := by
  by_cases h1 : 100 < n
  · clear h
    go_enter Try.func12, Try.ntmps12
    go_wp2_with (go_at_call 38; refine (awake06 _).mono ?_; rintro e w' ⟨rfl, hbw⟩)
    go_ret
    exact ⟨rfl, hbw⟩
  have h2 : WinNo wd mo := h.resolve_left h1
  clear h
  go_enter Try.func12, Try.ntmps12
  go_wp2_with (first | (go_at_call 38; refine (awake06 _).mono ?_; rintro e w' ⟨rfl, hbw⟩) | (go_at_call 39; refine (wNew_no _ _ _ h2).mono ?_; rintro e w' ⟨rfl, rfl⟩))
  go_ret
  exact ⟨rfl, hbw⟩

set_option maxHeartbeats 1000000 in
set_option maxRecDepth 100000 in
theorem windowOpens_in (w : World) (wd mo : Int) (A : Option Addr) (n c : Nat) (l : List Int) (hr : Rd w A n 1 (l.map (Value.int .i64))) (hl : l.length = n) (h1 : n ≤ 100) (h2 : ¬ WinNo wd mo) :
    Calls Try.prog 12 #[.int .i64 wd, .int .i64 mo, .slice A n c] w fun e w' => e = .returned (.bool true) ∧ Below w.heap.size w w' := by
  have HR := Lib.hid hr
  have HL := Lib.hid hl
  have H2 := Lib.hid h2
  clear hr hl h2
  go_enter Try.func12, Try.ntmps12
  go_wp2_with fail
  refine (awake06 _).mono ?_
  rintro e w1 ⟨rfl, hbw⟩
  go_wp2_with fail
  refine (wNew_yes _ wd mo H2.out).mono ?_
  rintro e w2 ⟨rfl, hO, hb2, hz⟩
  go_wp2_with fail
  have hP : WPlay w.heap.size w1.heap.size w w2 wd mo (.slice none 0 0) [] := ⟨hO, List.Pairwise.nil, hbw.size, by omega, hbw.trans (hb2.mono hbw.size)⟩
  clear hO hb2 hz hbw
  generalize w1.heap.size = b at *
  clear w1
  go_loopw [31] (fun i wr => ∃ (k : Nat) (v : Value) (ts : List Int), k ≤ n ∧ i = .int .i64 k ∧ WPlay w.heap.size b w wr wd mo v ts) (fun i _ => n - (intOf i).toNat)
  case atStart => exact ⟨0, _, [], by omega, rfl, hP⟩
  case round =>
    clear hP
    obtain ⟨k, v, ts, hk, rfl, hP⟩ := hrel
    by_cases hlt : k < n
    · obtain ⟨t, ht⟩ : ∃ t, l[k]? = some t := ⟨_, List.getElem?_eq_getElem (by have := HL.out; omega)⟩
      obtain ⟨g, off, hA, hbl, hcell⟩ := HR.out.2.2 (by omega)
      subst hA
      have a0 := (hP.2.2.2.2.cell (p := ⟨g, off + k, none⟩) hbl).trans (hcell k (.int .i64 t) (by rw [List.getElem?_map, ht]; rfl))
      clear hcell ht
      obtain ⟨Av, cv, rfl, hRw, -⟩ := hP.1.r
      have HRw := Lib.hid hRw
      have HP := Lib.hid hP
      have hmo := hP.1.hm
      have hwd := hP.1.hw
      clear hRw hP
      cases hr : rightB ts t with
      | false =>
        have Hr := Lib.hid hr
        have HF := Lib.hid (show freeV wd mo ts t = (0, 2) by rw [freeV, if_neg (by simp [hr])])
        clear hr
        go_wp2_with fail
        refine (wFree_any _ b _ _ wd mo t _ ts HRw.out (0, 2) HF.out).mono ?_
        rintro e w3 ⟨rfl, d1, rfl⟩
        go_wp2_with fail
        refine (wTake_wrong _ b _ _ wd mo t _ ts (HRw.out.drewN d1) Hr.out).mono ?_
        rintro e w3 ⟨rfl, d2, rfl⟩
        go_wp2_with fail
        go_roundw
        case rel => exact ⟨k + 1, _, ts, by omega, by go_num, HP.out.drewN _⟩
        case measure => simp [intOf]; omega
      | true =>
        obtain ⟨a, hop⟩ := opens_of HP.out.2.1 HP.out.1.hb HP.out.1.hn hmo.1 hwd hr
        obtain ⟨hF, ha1, ha2, ha0, ha9, hin, hbef, hout⟩ := hop
        have HF := Lib.hid hF
        have Hin := Lib.hid hin
        have Hbef := Lib.hid hbef
        have Hout := Lib.hid hout
        have Hr := Lib.hid hr
        clear hF hin hbef hout hr
        go_wp2_with fail
        refine (wFree_any _ b _ _ wd mo t _ ts HRw.out (a, 0) HF.out).mono ?_
        rintro e w3 ⟨rfl, d1, rfl⟩
        by_cases heq : t < a
        · have hgt : decide (t < a) = true := by simpa using heq
          have hnl : ¬ a < t := by omega
          by_cases hmx : a ≤ 1099511627776
          · go_wp2_with fail
            refine (wMay_any _ b _ _ wd mo a _ ts (HRw.out.drewN d1)).mono ?_
            rintro e w3 ⟨rfl, d2, rfl⟩
            rw [(Hin.out hmx).1]
            go_wp2_with fail
            refine (wMay_any _ b _ _ wd mo (a - 1) _ ts (HRw.out.drewN _)).mono ?_
            rintro e w3 ⟨rfl, d3, rfl⟩
            rw [Hbef.out heq]
            go_wp2_with fail
            refine (wTake_ok _ b _ wd mo a _ ts ((HP.out.drewN _).1) (by omega) (HP.out.drewN _).2.2.2.1 (Hin.out hmx).2.1 (Hin.out hmx).2.2).mono ?_
            rintro e w4 ⟨rfl, v4, hO4, hM4, -⟩
            have hP4 := (HP.out.drewN _).took (Hin.out hmx).2.1 hO4 hM4
            clear hO4 hM4
            go_wp2_with fail
            go_roundw
            case rel => exact ⟨k + 1, v4, _, by omega, by go_num, hP4⟩
            case measure => simp [intOf]; omega
          · go_wp2_with fail
            refine (wMay_any _ b _ _ wd mo (a - 1) _ ts (HRw.out.drewN _)).mono ?_
            rintro e w3 ⟨rfl, d3, rfl⟩
            rw [Hbef.out heq]
            go_wp2_with fail
            refine (wTake_wrong _ b _ _ wd mo a _ ts (HRw.out.drewN _) (Hout.out (by omega))).mono ?_
            rintro e w3 ⟨rfl, d4, rfl⟩
            go_wp2_with fail
            go_roundw
            case rel => exact ⟨k + 1, _, ts, by omega, by go_num, HP.out.drewN _⟩
            case measure => simp [intOf]; omega
        · obtain rfl : t = a := by omega
          have hmx : t ≤ 1099511627776 := (rightB_iff.1 Hr.out).2.1
          have H2 := Lib.hid hmx
          have HH := Lib.hid (Hin.out hmx)
          go_wp2_with fail
          refine (wMay_any _ b _ _ wd mo t _ ts (HRw.out.drewN d1)).mono ?_
          rintro e w3 ⟨rfl, d2, rfl⟩
          rw [HH.out.1]
          go_wp2_with fail
          refine (wTake_ok _ b _ wd mo t _ ts ((HP.out.drewN _).1) (by omega) (HP.out.drewN _).2.2.2.1 HH.out.2.1 HH.out.2.2).mono ?_
          rintro e w4 ⟨rfl, v4, hO4, hM4, -⟩
          have hP4 := (HP.out.drewN _).took HH.out.2.1 hO4 hM4
          clear hO4 hM4
          go_wp2_with fail
          go_roundw
          case rel => exact ⟨k + 1, v4, _, by omega, by go_num, hP4⟩
          case measure => simp [intOf]; omega
    · go_wp2
      go_ret
      exact ⟨rfl, hP.2.2.2.2⟩

theorem windowOpens_walk (w : World) (wd mo : Int) (A : Option Addr) (n c : Nat) (l : List Int) (hr : Rd w A n 1 (l.map (Value.int .i64))) (hl : l.length = n) :
    Calls Try.prog 12 #[.int .i64 wd, .int .i64 mo, .slice A n c] w fun e w' => e = .returned (.bool true) ∧ Below w.heap.size w w' := by
  by_cases h : 100 < n ∨ WinNo wd mo
  · exact windowOpens_out w wd mo A n c hr.2.1 h
  · exact windowOpens_in w wd mo A n c l hr hl (by omega) (fun h2 => h (.inr h2))

end Go.Proofs.Ytfmmaigaanikgaa
