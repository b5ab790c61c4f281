import Derived.Test.YtfmmaigaanikgaaWa
namespace Go.Proofs.Ytfmmaigaanikgaa
open Go.RowKit

/-- A window that was made, and what it reads as. -/
structure WinR (w : World) (b : Nat) (wd mo : Int) (A : Option Addr) (n c : Nat) (ts : List Int) : Prop where
  ho : Ob w b 67 [.int .i64 wd, .int .i64 mo, .slice A n c]
  hr : Rd w A n 1 (ts.map (Value.int .i64))
  hl : ts.length = n
  hm : 1 ≤ mo ∧ mo ≤ 1024
  hw : 1 ≤ wd ∧ wd ≤ 1073741824
  hb : ∀ t ∈ ts, 0 ≤ t ∧ t ≤ 1099511627776
  hn : n ≤ 1024
theorem WinR.drewN {w : World} {b : Nat} {wd mo : Int} {A : Option Addr} {n c : Nat} {ts : List Int} (h : WinR w b wd mo A n c ts) (k : Nat) : WinR (w.drewN k) b wd mo A n c ts := ⟨h.1, h.2, h.3, h.4, h.5, h.6, h.7⟩

def lastLe (ts : List Int) (now : Int) : Bool := match ts.getLast? with | none => true | some l => decide (l ≤ now)
def rightB (ts : List Int) (now : Int) : Bool := decide (0 ≤ now) && (decide (now ≤ 1099511627776) && lastLe ts now)
theorem rightB_iff {ts : List Int} {now : Int} : rightB ts now = true ↔ 0 ≤ now ∧ now ≤ 1099511627776 ∧ lastLe ts now = true := by simp [rightB]
/-- How many were taken in the stretch that ends now. -/
def cntW (wd now : Int) (ts : List Int) : Nat := (ts.filter fun t => decide (now - t < wd)).length
theorem cntW_le (wd now : Int) (ts : List Int) : cntW wd now ts ≤ ts.length := List.length_filter_le ..

theorem WinR.last {w : World} {b : Nat} {wd mo : Int} {A : Option Addr} {n c : Nat} {ts : List Int} (h : WinR w b wd mo A n c ts) (h0 : 0 < n) :
    ∃ q g off l, n = q + 1 ∧ A = some ⟨g, off, none⟩ ∧ ts.getLast? = some l ∧ w.cell? ⟨g, off + q, none⟩ = some (.int .i64 l) ∧ 0 ≤ l ∧ l ≤ 1099511627776 := by
  obtain ⟨g, off, hA, _, hc⟩ := h.hr.2.2 h0
  have hl := h.hl
  obtain ⟨l, hl'⟩ : ∃ l, ts[n - 1]? = some l := ⟨_, List.getElem?_eq_getElem (by omega)⟩
  have hb := h.hb l (List.mem_of_getElem? hl')
  exact ⟨n - 1, g, off, l, by omega, hA, by rw [List.getLast?_eq_getElem?, hl]; exact hl', hc _ _ (by rw [List.getElem?_map, hl']; rfl), hb.1, hb.2⟩

theorem ret_b {a b : Bool} {w w' : World} {P : Prop} (h : a = b) (hp : P) : Ending.returned (.bool a) = .returned (.bool b) ∧ P := ⟨by rw [h], hp⟩

set_option maxHeartbeats 400000 in
theorem wRight_any (w : World) (b n c : Nat) (wd mo now : Int) (A : Option Addr) (ts : List Int) (h : WinR w b wd mo A n c ts) :
    Calls Try.prog 62 #[.pointer (some ⟨b, 0, none⟩), .int .i64 now] w fun e w' => e = .returned (.bool (rightB ts now)) ∧ ∃ k, w' = w.drewN k := by
  have hm : 0 < mo := by have := h.hm; omega
  have ho := h.ho
  rcases Nat.eq_zero_or_pos n with h0 | h0
  · subst h0
    have hts : ts = [] := List.eq_nil_of_length_eq_zero h.hl
    subst hts
    clear h
    by_cases h1 : 0 ≤ now
    · by_cases h2 : now ≤ 1099511627776
      · go_enter Try.func62, Try.ntmps62
        go_wp2_with (go_at_call 42; refine (wLast_empty _ b c wd mo A ho hm).mono ?_; rintro e w' ⟨rfl, rfl⟩)
        go_ret
        exact ⟨by simp [rightB, lastLe, h1, h2], 0, rfl⟩
      · go_enter Try.func62, Try.ntmps62
        go_wp2_with (go_at_call 42; refine (wLast_empty _ b c wd mo A ho hm).mono ?_; rintro e w' ⟨rfl, rfl⟩)
        go_ret
        exact ⟨by simp [rightB, lastLe]; omega, 0, rfl⟩
    · go_enter Try.func62, Try.ntmps62
      go_wp2_with (go_at_call 42; refine (wLast_empty _ b c wd mo A ho hm).mono ?_; rintro e w' ⟨rfl, rfl⟩)
      go_ret
      exact ⟨by simp [rightB, lastLe]; omega, 0, rfl⟩
  · obtain ⟨q, g, off, l, rfl, rfl, hl, hc, hl0, hl9⟩ := h.last h0
    have hn := h.hn
    have hq : q < 1000000 := by omega
    have HL := Lib.hid hl
    clear h hl
    by_cases h1 : 0 ≤ now
    · by_cases h2 : now ≤ 1099511627776
      · go_enter Try.func62, Try.ntmps62
        go_wp2_with (go_at_call 42; refine (wLast_some _ b c q g off wd mo l ho hm hq hc).mono ?_; rintro e w' ⟨rfl, k, rfl⟩)
        go_ret
        exact ⟨by simp [rightB, lastLe, h1, h2, HL.out], k, rfl⟩
      · go_enter Try.func62, Try.ntmps62
        go_wp2_with (go_at_call 42; refine (wLast_some _ b c q g off wd mo l ho hm hq hc).mono ?_; rintro e w' ⟨rfl, k, rfl⟩)
        go_ret
        exact ⟨by simp [rightB, lastLe]; omega, k, rfl⟩
    · go_enter Try.func62, Try.ntmps62
      go_wp2_with (go_at_call 42; refine (wLast_some _ b c q g off wd mo l ho hm hq hc).mono ?_; rintro e w' ⟨rfl, k, rfl⟩)
      go_ret
      exact ⟨by simp [rightB, lastLe]; omega, k, rfl⟩

set_option maxHeartbeats 400000 in
set_option maxRecDepth 100000 in
theorem wCount_any (w : World) (b n c : Nat) (wd mo now : Int) (A : Option Addr) (ts : List Int) (h : WinR w b wd mo A n c ts) (hrt : rightB ts now = true) :
    Calls Try.prog 43 #[.pointer (some ⟨b, 0, none⟩), .int .i64 now] w fun e w' => e = .returned (.int .i64 (cntW wd now ts)) ∧ ∃ k, w' = w.drewN k := by
  have hm : 0 < mo := by have := h.hm; omega
  have ho := h.ho
  obtain ⟨hn0, hn9, hll⟩ := rightB_iff.1 hrt
  rcases Nat.eq_zero_or_pos n with h0 | h0
  · subst h0
    have hts : ts = [] := List.eq_nil_of_length_eq_zero h.hl
    subst hts
    clear h hrt
    go_enter Try.func43, Try.ntmps43
    go_wp2_with (go_at_call 42; refine (wLast_empty _ b c wd mo A ho hm).mono ?_; rintro e w' ⟨rfl, rfl⟩)
    go_ret
    exact ⟨rfl, 0, rfl⟩
  · obtain ⟨q, g, off, l, hq1, hA, hl, hc, hl0, hl9⟩ := h.last h0
    subst hA
    have hn := h.hn
    have hwd := h.hw
    have HB := Lib.hid h.hb
    have HL := Lib.hid h.hl
    have HR := Lib.hid h.hr
    have hln : l ≤ now := by rw [lastLe, hl] at hll; simpa using hll
    have hlast : Calls Try.prog 42 #[.pointer (some ⟨b, 0, none⟩)] w fun e w' => e = .returned (.tuple #[.int .i64 l, .bool true]) ∧ ∃ k, w' = w.drewN k := by
      subst hq1
      exact wLast_some w b c q g off wd mo l ho hm (by omega) hc
    have Hlast := Lib.hid hlast
    have hcell := ho.cell
    clear h hrt hll hl hlast hq1 hc
    go_enter Try.func43, Try.ntmps43
    go_wp2_with (go_at_call 42; refine Hlast.out.mono ?_; rintro e w' ⟨rfl, k0, rfl⟩)
    go_loop [7, 27] (fun cn i => ∃ k : Nat, k ≤ n ∧ i = .int .i64 k ∧ cn = .int .i64 (cntW wd now (ts.take k))) (fun _ i => n - (intOf i).toNat)
    case atStart => exact ⟨0, by omega, rfl, rfl⟩
    case round =>
      obtain ⟨k, hk, rfl, rfl⟩ := hrel
      by_cases hlt : k < n
      · obtain ⟨t, ht⟩ : ∃ t, ts[k]? = some t := ⟨_, List.getElem?_eq_getElem (by have := HL.out; omega)⟩
        have hcl : w.cell? ⟨g, off + k, none⟩ = some (.int .i64 t) := by
          obtain ⟨g', off', he, _, hx⟩ := HR.out.2.2 h0
          injection he with he
          injection he with e1 e2 e3
          subst e1; subst e2
          exact hx k _ (by rw [List.getElem?_map, ht]; rfl)
        obtain ⟨ht0, ht9⟩ := HB.out t (List.mem_of_getElem? ht)
        have hsn : cntW wd now (ts.take (k + 1)) = cntW wd now (ts.take k) + if now - t < wd then 1 else 0 := by
          rw [List.take_add_one, ht]
          unfold cntW
          rw [List.filter_append]
          by_cases hx : now - t < wd <;> simp [hx]
        have hle := cntW_le wd now (ts.take k)
        have hle2 : (ts.take k).length ≤ k := List.length_take_le ..
        have Hsn := Lib.hid hsn
        clear hsn ht
        generalize cntW wd now (ts.take k) = x at *
        by_cases hx : now - t < wd
        · go_wp2
          go_round
          case rel => exact ⟨k + 1, by omega, by go_num, by rw [Hsn.out, if_pos hx]; go_num⟩
          case measure => simp [intOf]; omega
        · go_wp2
          go_round
          case rel => exact ⟨k + 1, by omega, by go_num, by rw [Hsn.out, if_neg hx]; go_num⟩
          case measure => simp [intOf]; omega
      · go_wp2
        go_ret
        exact ⟨ret_int (by rw [List.take_of_length_le (by have := HL.out; omega)]), _, rfl⟩

end Go.Proofs.Ytfmmaigaanikgaa
