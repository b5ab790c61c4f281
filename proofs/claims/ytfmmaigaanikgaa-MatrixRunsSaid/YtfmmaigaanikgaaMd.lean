import Derived.Test.YtfmmaigaanikgaaMc
import Derived.Deep.DeepCutAuto
namespace Go.Proofs.Ytfmmaigaanikgaa
open Go.RowKit

def opB (s : Int) : Bool := decide (1 ≤ s ∧ s ≤ 5)
def dnB (s : Int) : Bool := decide (6 ≤ s ∧ s ≤ 8)
theorem opB_any (s : Int) (w : World) : Calls Try.prog 26 #[.int .i64 s] w fun e w' => e = .returned (.bool (opB s)) ∧ w = w' := open_any s w
theorem dnB_any (s : Int) (w : World) : Calls Try.prog 27 #[.int .i64 s] w fun e w' => e = .returned (.bool (dnB s)) ∧ w = w' := done_any s w
/-- What is known of the state behind an event. -/
def NxP (s v t e : Int) : Prop :=
  (e ≠ 0 ∧ t = 0) ∨ (e = 0 ∧ 1 ≤ t ∧ t ≤ 8 ∧ (6 ≤ s → t = s) ∧ (s ≠ 1 → t ≠ 1) ∧ (v = 6 → t = 6) ∧ (v = 2 → t = 7) ∧ (v = 9 → t = 4) ∧ (v = 10 → t = 5))
theorem nxP_of (s v c : Int) (h1 : 1 ≤ s) (h2 : s ≤ 8) : NxP s v (nx s v c).1 (nx s v c).2 := by
  by_cases h : v < 1 ∨ 10 < v ∨ c < 0
  · rw [nx_out (by omega)]
    exact .inl ⟨by decide, rfl⟩
  · rw [nx_in h1 h2 (by omega) (by omega) (by omega)]
    rcases (show s = 1 ∨ s = 2 ∨ s = 3 ∨ s = 4 ∨ s = 5 ∨ s = 6 ∨ s = 7 ∨ s = 8 by omega) with rfl | rfl | rfl | rfl | rfl | rfl | rfl | rfl <;>
    rcases (show v = 1 ∨ v = 2 ∨ v = 3 ∨ v = 4 ∨ v = 5 ∨ v = 6 ∨ v = 7 ∨ v = 8 ∨ v = 9 ∨ v = 10 by omega) with rfl | rfl | rfl | rfl | rfl | rfl | rfl | rfl | rfl | rfl <;>
    by_cases hc : 0 < c <;> simp [NxP, nt, toT, rowT, hc]

set_option maxHeartbeats 2000000 in
set_option maxRecDepth 100000 in
theorem matrixRuns_walk (w : World) (A : Option Addr) (n c : Nat) (ev : List Int) (hr : Rd w A n 1 (ev.map (Value.int .i64))) (hl : ev.length = n) (A' : Option Addr) (n' c' : Nat) (cu : List Int) (hr' : Rd w A' n' 1 (cu.map (Value.int .i64))) (hl' : cu.length = n') :
    Calls Try.prog 7 #[.slice A n c, .slice A' n' c'] w fun e w' => e = .returned (.bool true) ∧ Below w.heap.size w w' := by
  have h9 := hr.2.1
  have h9' := hr'.2.1
  have HR := Lib.hid hr
  have HL := Lib.hid hl
  have HR' := Lib.hid hr'
  have HL' := Lib.hid hl'
  clear hr hl hr' hl'
  by_cases hn : 200 < n
  · go_enter Try.func7, Try.ntmps7
    go_wp2_with (go_at_call 23; refine (awake20 _).mono ?_; rintro e w' ⟨rfl, hbw⟩)
    go_ret
    exact ⟨rfl, hbw⟩
  go_enter Try.func7, Try.ntmps7
  go_wp2_with fail
  refine (awake20 _).mono ?_
  rintro e w1 ⟨rfl, hbw⟩
  go_wp2_with fail
  go_loopw [5, 18] (fun sv i wr => ∃ (k : Nat) (s : Int), k ≤ n ∧ i = .int .i64 k ∧ sv = .int .i64 s ∧ 1 ≤ s ∧ s ≤ 8 ∧ Below w.heap.size w wr) (fun _ i _ => n - (intOf i).toNat)
  case atStart => exact ⟨0, 1, by omega, rfl, rfl, by omega, by omega, hbw⟩
  case round =>
    clear hbw
    obtain ⟨k, s, hk, rfl, rfl, hs1, hs8, hb⟩ := hrel
    by_cases hlt : k < n
    · obtain ⟨v, hv⟩ : ∃ v, ev[k]? = some v := ⟨_, List.getElem?_eq_getElem (by have := HL.out; omega)⟩
      obtain ⟨b, off, hA, hbl, hcell⟩ := HR.out.2.2 (by omega)
      subst hA
      have a0 := (hb.cell (p := ⟨b, off + k, none⟩) hbl).trans (hcell k (.int .i64 v) (by rw [List.getElem?_map, hv]; rfl))
      clear hcell hv
      have hcum : ∃ cum : Int, (k < n' → ∃ b' off', A' = some ⟨b', off', none⟩ ∧ wr.cell? ⟨b', off' + k, none⟩ = some (.int .i64 cum)) ∧ (¬ k < n' → cum = 0) := by
        by_cases hk' : k < n'
        · obtain ⟨b', off', hA', hbl', hcell'⟩ := HR'.out.2.2 (by omega)
          obtain ⟨v', hv'⟩ : ∃ v, cu[k]? = some v := ⟨_, List.getElem?_eq_getElem (by have := HL'.out; omega)⟩
          exact ⟨v', fun _ => ⟨b', off', hA', (hb.cell (p := ⟨b', off' + k, none⟩) hbl').trans (hcell' k (.int .i64 v') (by rw [List.getElem?_map, hv']; rfl))⟩, fun h => absurd hk' h⟩
        · exact ⟨0, fun h => absurd h hk', fun _ => rfl⟩
      obtain ⟨cum, hc1, hc2⟩ := hcum
      have hN := fun w0 => next_any s v cum w0
      have hP := nxP_of s v cum hs1 hs8
      generalize nx s v cum = x at hN hP
      obtain ⟨t, er⟩ := x
      have HN := Lib.hid hN
      have hP : NxP s v t er := hP
      clear hN
      have HP := Lib.hid hP
      clear hP
      go_upto_if 26 with (fail)
      go_cut [8] (fun s8 wx => s8 = .int .i64 cum ∧ wx = wr)
      case first =>
        by_cases hk' : k < n'
        · obtain ⟨b', off', hA', a1⟩ := hc1 hk'
          subst hA'
          clear hc1 hc2
          go_wp2
          go_meet
          exact ⟨rfl, rfl⟩
        · obtain rfl := hc2 hk'
          clear hc1 hc2
          go_wp2
          go_meet
          exact ⟨rfl, rfl⟩
      case rest =>
        obtain ⟨rfl, rfl⟩ := hcut
        clear hc1 hc2 a0
        go_wp2_with fail
        refine (HN.out _).mono ?_
        rintro e w2 ⟨rfl, hb2⟩
        have hb3 := hb.trans (hb2.mono hb.size)
        clear hb hb2
        rcases HP.out with ⟨he, rfl⟩ | ⟨rfl, ht1, ht8, p1, p2, p3, p4, p5, p6⟩
        · have he' : (er != 0) = true := by simpa using he
          clear he
          go_wp2_with fail
          go_roundw
          case rel => exact ⟨k + 1, s, by omega, by go_num, rfl, hs1, hs8, hb3⟩
          case measure => simp [intOf]; omega
        · have HT := Lib.hid p1
          have H2 := Lib.hid p2
          have H3 := Lib.hid p3
          have H4 := Lib.hid p4
          have H5 := Lib.hid p5
          have H6 := Lib.hid p6
          clear p1 p2 p3 p4 p5 p6
          go_upto_region 16 with (fail)
          go_cut [66] (fun b wx => b = .bool false ∧ wx = w2)
          case first =>
            by_cases ht : t ≤ 5
            · have o1 : opB t = true := decide_eq_true (by omega)
              by_cases hs : s = 1
              · subst hs
                have g2 : dnB 1 = false := rfl
                go_wp2_with (first | (go_at_call 26; refine (opB_any _ _).mono ?_; rintro e w' ⟨rfl, rfl⟩) | (go_at_call 27; refine (dnB_any _ _).mono ?_; rintro e w' ⟨rfl, rfl⟩))
                go_meet
                exact ⟨rfl, rfl⟩
              · have g1 : (s != 1) = true := by simpa using hs
                have g2 : dnB s = false := decide_eq_false (by have := HT.out; omega)
                have g3 : (t == 1) = false := by have := H2.out hs; simpa using this
                clear hs
                go_wp2_with (first | (go_at_call 26; refine (opB_any _ _).mono ?_; rintro e w' ⟨rfl, rfl⟩) | (go_at_call 27; refine (dnB_any _ _).mono ?_; rintro e w' ⟨rfl, rfl⟩))
                go_meet
                exact ⟨rfl, rfl⟩
            · have o1 : opB t = false := decide_eq_false (by omega)
              have o2 : dnB t = true := decide_eq_true (by omega)
              by_cases hs : s = 1
              · subst hs
                have g2 : dnB 1 = false := rfl
                go_wp2_with (first | (go_at_call 26; refine (opB_any _ _).mono ?_; rintro e w' ⟨rfl, rfl⟩) | (go_at_call 27; refine (dnB_any _ _).mono ?_; rintro e w' ⟨rfl, rfl⟩))
                go_meet
                exact ⟨rfl, rfl⟩
              · have g1 : (s != 1) = true := by simpa using hs
                have g3 : (t == 1) = false := by have := H2.out hs; simpa using this
                by_cases hs5 : s ≤ 5
                · have g2 : dnB s = false := decide_eq_false (by omega)
                  clear hs
                  go_wp2_with (first | (go_at_call 26; refine (opB_any _ _).mono ?_; rintro e w' ⟨rfl, rfl⟩) | (go_at_call 27; refine (dnB_any _ _).mono ?_; rintro e w' ⟨rfl, rfl⟩))
                  go_meet
                  exact ⟨rfl, rfl⟩
                · obtain rfl := HT.out (by omega)
                  clear hs
                  go_wp2_with (first | (go_at_call 26; refine (opB_any _ _).mono ?_; rintro e w' ⟨rfl, rfl⟩) | (go_at_call 27; refine (dnB_any _ _).mono ?_; rintro e w' ⟨rfl, rfl⟩))
                  go_meet
                  exact ⟨rfl, rfl⟩
          case rest =>
            obtain ⟨rfl, rfl⟩ := hcut
            go_upto_region 18 with (fail)
            go_cut [96] (fun b wx => b = .bool false ∧ wx = wc)
            case first =>
              by_cases v6 : v = 6
              · obtain rfl := H3.out v6
                subst v6
                go_wp2
                go_meet
                exact ⟨rfl, rfl⟩
              have f6 : (v == 6) = false := by simpa using v6
              by_cases v2 : v = 2
              · obtain rfl := H4.out v2
                subst v2
                go_wp2
                go_meet
                exact ⟨rfl, rfl⟩
              have f2 : (v == 2) = false := by simpa using v2
              by_cases v9 : v = 9
              · obtain rfl := H5.out v9
                subst v9
                go_wp2
                go_meet
                exact ⟨rfl, rfl⟩
              have f9 : (v == 9) = false := by simpa using v9
              by_cases v10 : v = 10
              · obtain rfl := H6.out v10
                subst v10
                go_wp2
                go_meet
                exact ⟨rfl, rfl⟩
              have f10 : (v == 10) = false := by simpa using v10
              clear v6 v2 v9 v10
              go_wp2
              go_meet
              exact ⟨rfl, rfl⟩
            case rest =>
              obtain ⟨rfl, rfl⟩ := hcut
              go_wp2
              go_roundw
              case rel => exact ⟨k + 1, t, by omega, by go_num, rfl, ht1, ht8, hb3⟩
              case measure => simp [intOf]; omega
    · go_wp2
      go_ret
      exact ⟨rfl, hb⟩

end Go.Proofs.Ytfmmaigaanikgaa
