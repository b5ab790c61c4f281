import Derived.Test.YtfmmaigaanikgaaWb
namespace Go.Proofs.Ytfmmaigaanikgaa
open Go.RowKit

theorem wIs_q (w : World) (b n : Nat) (m : Int) (h : w.cell? ⟨b, 1, none⟩ = some (.int .i64 m)) (hr : decide (0 < m) = true) :
    Calls Try.prog 61 #[.pointer (some ⟨b, 0, none⟩)] (w.drewN n) fun e w' => e = .returned (.bool true) ∧ ∃ k, w' = w.drewN k :=
  (wIs_some (w.drewN n) b m h true hr).mono fun _ _ ⟨he, hw⟩ => ⟨he, n, hw.symm⟩
theorem wRight_q (w : World) (b n c k : Nat) (wd mo now : Int) (A : Option Addr) (ts : List Int) (h : WinR w b wd mo A n c ts) (r : Bool) (hr : rightB ts now = r) :
    Calls Try.prog 62 #[.pointer (some ⟨b, 0, none⟩), .int .i64 now] (w.drewN k) fun e w' => e = .returned (.bool r) ∧ ∃ j, w' = w.drewN j := by
  subst hr
  exact (wRight_any (w.drewN k) b n c wd mo now A ts (h.drewN k)).mono fun _ _ ⟨he, j, hw⟩ => ⟨he, k + j, by rw [hw, World.drewN_drewN]⟩
theorem wCount_q (w : World) (b n c k : Nat) (wd mo now : Int) (A : Option Addr) (ts : List Int) (h : WinR w b wd mo A n c ts) (hr : rightB ts now = true) (x : Nat) (hx : cntW wd now ts = x) :
    Calls Try.prog 43 #[.pointer (some ⟨b, 0, none⟩), .int .i64 now] (w.drewN k) fun e w' => e = .returned (.int .i64 x) ∧ ∃ j, w' = w.drewN j := by
  subst hx
  exact (wCount_any (w.drewN k) b n c wd mo now A ts (h.drewN k) hr).mono fun _ _ ⟨he, j, hw⟩ => ⟨he, k + j, by rw [hw, World.drewN_drewN]⟩

theorem wCount_qq (w : World) (b n c k j : Nat) (wd mo now : Int) (A : Option Addr) (ts : List Int) (h : WinR w b wd mo A n c ts) (hr : rightB ts now = true) (x : Nat) (hx : cntW wd now ts = x) :
    Calls Try.prog 43 #[.pointer (some ⟨b, 0, none⟩), .int .i64 now] (w.drewN (k + j)) fun e w' => e = .returned (.int .i64 x) ∧ ∃ i, w' = w.drewN (k + i) := by
  subst hx
  exact (wCount_any (w.drewN (k + j)) b n c wd mo now A ts (h.drewN _) hr).mono fun _ _ ⟨he, i, hw⟩ => ⟨he, j + i, by rw [hw, World.drewN_drewN, Nat.add_assoc]⟩

def mayB (wd mo : Int) (ts : List Int) (now : Int) : Bool := rightB ts now && decide ((cntW wd now ts : Int) < mo)

set_option maxHeartbeats 400000 in
set_option maxRecDepth 100000 in
theorem wMay_any (w : World) (b n c : Nat) (wd mo now : Int) (A : Option Addr) (ts : List Int) (h : WinR w b wd mo A n c ts) :
    Calls Try.prog 44 #[.pointer (some ⟨b, 0, none⟩), .int .i64 now] w fun e w' => e = .returned (.bool (mayB wd mo ts now)) ∧ ∃ k, w' = w.drewN k := by
  have hm : decide (0 < mo) = true := by have := h.hm; simp; omega
  have hc1 := h.ho.cell 1
  have hcell : w.cell? ⟨b, 1, none⟩ = some (.int .i64 mo) := hc1
  clear hc1
  cases hr : rightB ts now with
  | false =>
    have HR := Lib.hid hr
    clear hr
    go_enter Try.func44, Try.ntmps44
    go_wp2
    go_quiet ((first | (go_at_call 61; exact wIs_q w b _ mo hcell hm) | (go_at_call 62; exact wRight_q w b n c _ wd mo now A ts h false HR.out)))
    go_wp2
    go_ret
    exact ⟨by simp [mayB, HR.out], _, rfl⟩
  | true =>
    have HR := Lib.hid hr
    generalize hx : cntW wd now ts = x
    have HX := Lib.hid hx
    clear hr hx
    go_enter Try.func44, Try.ntmps44
    go_wp2
    go_quiet ((first | (go_at_call 61; exact wIs_q w b _ mo hcell hm) | (go_at_call 62; exact wRight_q w b n c _ wd mo now A ts h true HR.out) | (go_at_call 43; exact wCount_q w b n c _ wd mo now A ts h HR.out x HX.out)))
    go_wp2
    go_ret
    exact ⟨by simp [mayB, HR.out, HX.out], _, rfl⟩

/-- The least tick at which one may be taken, an error's number. -/
def freeV (wd mo : Int) (ts : List Int) (now : Int) : Int × Int :=
  if rightB ts now = true then (if (cntW wd now ts : Int) < mo then (now, 0) else (ts.headD 0 + wd, 0)) else (0, 2)

set_option maxHeartbeats 400000 in
set_option maxRecDepth 100000 in
theorem wFree_any (w : World) (b n c : Nat) (wd mo now : Int) (A : Option Addr) (ts : List Int) (h : WinR w b wd mo A n c ts) (x : Int × Int) (hxx : freeV wd mo ts now = x) :
    Calls Try.prog 41 #[.pointer (some ⟨b, 0, none⟩), .int .i64 now] w fun e w' => e = .returned (.tuple #[.int .i64 x.1, .int .i64 x.2]) ∧ ∃ k, w' = w.drewN k := by
  have hm : decide (0 < mo) = true := by have := h.hm; simp; omega
  have hcell : w.cell? ⟨b, 1, none⟩ = some (.int .i64 mo) := h.ho.cell 1
  have hmb := h.hm
  cases hr : rightB ts now with
  | false =>
    have HR := Lib.hid hr
    obtain rfl : (0, 2) = x := by rw [← hxx, freeV, if_neg (by simp [hr])]
    clear hr hxx
    go_enter Try.func41, Try.ntmps41
    go_wp2_with (first | (go_at_call 61; refine (wIs_some w b mo hcell true hm).mono ?_; rintro e w' ⟨rfl, rfl⟩) | (go_at_call 62; refine (wRight_q w b n c 0 wd mo now A ts h false HR.out).mono ?_; rintro e w' ⟨rfl, k, rfl⟩))
    go_ret2
    exact ⟨rfl, _, rfl⟩
  | true =>
    have HR := Lib.hid hr
    obtain ⟨hn0, hn9, _⟩ := rightB_iff.1 hr
    by_cases hlt : (cntW wd now ts : Int) < mo
    · obtain rfl : (now, 0) = x := by rw [← hxx, freeV, if_pos hr, if_pos hlt]
      generalize hx : cntW wd now ts = y at *
      have HX := Lib.hid hx
      clear hr hx hxx
      go_enter Try.func41, Try.ntmps41
      go_wp2_with (first | (go_at_call 61; refine (wIs_some w b mo hcell true hm).mono ?_; rintro e w' ⟨rfl, rfl⟩) | (go_at_call 62; refine (wRight_q w b n c 0 wd mo now A ts h true HR.out).mono ?_; rintro e w' ⟨rfl, k, rfl⟩))
      go_quiet ((go_at_call 43; exact wCount_qq w b n c _ _ wd mo now A ts h HR.out y HX.out))
      go_wp2
      go_ret2
      exact ⟨rfl, _, by rw [World.drewN_drewN]⟩
    · have hle := cntW_le wd now ts
      have hl := h.hl
      have h0 : 0 < n := by omega
      obtain ⟨g, off, hA, _, hc⟩ := h.hr.2.2 h0
      subst hA
      obtain ⟨t, ht⟩ : ∃ t, ts[0]? = some t := ⟨_, List.getElem?_eq_getElem (by omega)⟩
      have hct : w.cell? ⟨g, off, none⟩ = some (.int .i64 t) := hc 0 _ (by rw [List.getElem?_map, ht]; rfl)
      obtain ⟨ht0, ht9⟩ := h.hb t (List.mem_of_getElem? ht)
      have hwd := h.hw
      obtain rfl : (t + wd, 0) = x := by
        rw [← hxx, freeV, if_pos hr, if_neg hlt]
        cases ts with
        | nil => simp at ht
        | cons a r => simp at ht; subst ht; rfl
      have ho := h.ho.cell
      have hwr : IntKind.i64.wrap (t + wd) = t + wd := IntWalk.i64_in _ (by omega)
      have hnn : (0 : Int) < n := by omega
      generalize hx : cntW wd now ts = y at *
      have HX := Lib.hid hx
      have hge : decide ((y : Int) < mo) = false := by simp; omega
      have HT := Lib.hid ht
      clear hr hx hxx hc hl ht hle hlt
      go_enter Try.func41, Try.ntmps41
      go_wp2_with (first | (go_at_call 61; refine (wIs_some w b mo hcell true hm).mono ?_; rintro e w' ⟨rfl, rfl⟩) | (go_at_call 62; refine (wRight_q w b n c 0 wd mo now _ ts h true HR.out).mono ?_; rintro e w' ⟨rfl, k, rfl⟩))
      go_quiet ((go_at_call 43; exact wCount_qq w b n c _ _ wd mo now _ ts h HR.out y HX.out))
      go_wp2
      go_quiet (fail)
      go_wp2
      go_ret2
      exact ⟨rfl, _, by rw [World.drewN_drewN, World.drewN_drewN]⟩

end Go.Proofs.Ytfmmaigaanikgaa
