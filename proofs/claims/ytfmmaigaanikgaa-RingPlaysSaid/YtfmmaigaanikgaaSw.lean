import Derived.Test.YtfmmaigaanikgaaSv
namespace Go.Proofs.Ytfmmaigaanikgaa
open Go.RowKit

theorem ret_int {k : IntKind} {a b : Int} (h : a = b) : Ending.returned (.int k a) = .returned (.int k b) := by rw [h]
theorem ret_bool {a b : Bool} (h : a = b) : Ending.returned (.bool a) = .returned (.bool b) := by rw [h]
theorem cnt_of (l : List (Int × Int × Int)) (f : Int × Int × Int) (n k : Nat) (hn : l.length = n) (h0 : 0 < n) (hf : l[n - 1]? = some f) (hk : k ≤ n) (hall : ∀ j g, j < k → l.reverse[j]? = some g → g = f)
    (he : k = n ∨ ∃ g, l.reverse[k]? = some g ∧ g ≠ f) : (k : Int) = cntL l := by
  have hr : l.reverse[0]? = some f := by rw [List.getElem?_reverse (by omega), hn]; exact hf
  have h1 := lead_split f l.reverse k hall (by simp; omega) (by simpa [hn] using he)
  unfold cntL
  cases hl : l.reverse with
  | nil => rw [hl] at hr; simp at hr
  | cons a r =>
    rw [hl] at hr h1
    simp at hr
    subst hr
    simp only [lead, if_true] at h1
    show (k : Int) = ((lead a r + 1 : Nat) : Int)
    rw [h1]

set_option maxHeartbeats 400000 in
set_option maxRecDepth 100000 in
theorem refCount_some (w : World) (b off n c : Nat) (l : List (Int × Int × Int)) (hn : l.length = n) (h0 : 0 < n) (h9 : n ≤ 100000) (hc : ∀ j u, (l.flatMap fcells)[j]? = some u → w.cell? ⟨b, off + j, none⟩ = some u) :
    Calls Try.prog 21 #[.slice (some ⟨b, off, none⟩) n c] w fun e w' => e = .returned (.int .i64 (cntL l)) ∧ ∃ m, w' = w.drewN m := by
  obtain ⟨f, hf⟩ : ∃ f, l[n - 1]? = some f := ⟨_, List.getElem?_eq_getElem (by omega)⟩
  have cell : ∀ i x, l[i]? = some x → w.cell? ⟨b, off + i * 3, none⟩ = some (.int .i64 x.1) ∧ w.cell? ⟨b, off + i * 3 + 1, none⟩ = some (.int .i64 x.2.1) ∧ w.cell? ⟨b, off + i * 3 + 2, none⟩ = some (.int .i64 x.2.2) := by
    intro i x hx
    have h0 := hc _ _ (flat_at fcells 3 (fun _ => rfl) l i 0 x hx (by omega))
    have h1 := hc _ _ (flat_at fcells 3 (fun _ => rfl) l i 1 x hx (by omega))
    have h2 := hc _ _ (flat_at fcells 3 (fun _ => rfl) l i 2 x hx (by omega))
    exact ⟨h0, h1, h2⟩
  have HC := Lib.hid cell
  have HF := Lib.hid hf
  have HN := Lib.hid hn
  clear cell hc hf hn
  go_enter Try.func21, Try.ntmps21
  go_wp2
  go_loopw [3, 4] (fun cn i wr => ∃ k : Nat, k ≤ n ∧ cn = .int .i64 k ∧ i = .int .i64 ((n : Int) - 1 - k) ∧ (∀ j g, j < k → l.reverse[j]? = some g → g = f) ∧ ∃ m, wr = w.drewN m) (fun cn _ _ => n - (intOf cn).toNat)
  case atStart => exact ⟨0, by omega, rfl, by simp, fun j g hj => absurd hj (by omega), 0, rfl⟩
  case round =>
    obtain ⟨k, hk, rfl, rfl, hall, m, rfl⟩ := hrel
    by_cases hlt : k < n
    · obtain ⟨x, hx⟩ : ∃ x, l[n - 1 - k]? = some x := ⟨_, List.getElem?_eq_getElem (by have := HN.out; omega)⟩
      obtain ⟨i, hi⟩ : ∃ i : Nat, (n : Int) - 1 - k = i := ⟨n - 1 - k, by omega⟩
      have hi' : n - 1 - k = i := by omega
      obtain ⟨q, hq⟩ : ∃ q : Nat, n - 1 = q := ⟨_, rfl⟩
      rw [hi'] at hx
      have HF' := HF.out
      rw [hq] at HF'
      have Hx := Lib.hid hx
      obtain ⟨a0, a1, a2⟩ := HC.out i x hx
      obtain ⟨z0, z1, z2⟩ := HC.out q f HF'
      have hw : IntKind.i64.wrap ((n : Int) - 1) = q := by rw [IntWalk.i64_in _ (by omega)]; omega
      rw [hi]
      have Hi := Lib.hid hi
      have hin : i < n := by omega
      have hqn : q < n := by omega
      have hrev : l.reverse[k]? = some x := by
        rw [List.getElem?_reverse (by have := HN.out; omega), HN.out, hi']; exact hx
      have Hrev := Lib.hid hrev
      clear hi hi' hq hx HF' hrev
      by_cases hxf : x = f
      · have hE := eql35 x.1 x.2.1 x.2.2 f.1 f.2.1 f.2.2 true (by rw [sameB_iff]; exact decide_eq_true hxf)
        have hG := guard35
        have Hxf := Lib.hid hxf
        have Hall := Lib.hid hall
        clear hxf hall
        go_wp2
        go_quiet (fail)
        clear hE hG hw a0 a1 a2 z0 z1 z2
        go_wp2
        go_roundw
        case rel =>
          refine ⟨k + 1, by omega, by go_num, ?_, fun j g hj hg => ?_, _, rfl⟩
          · have := Hi.out; congr 1; omega
          · rcases Nat.lt_or_ge j k with h | h
            · exact Hall.out j g h hg
            · obtain rfl : j = k := by omega
              rw [Hrev.out] at hg
              injection hg with hg
              rw [← hg]; exact Hxf.out
        case measure => simp [intOf]; omega
      · have hE := eql35 x.1 x.2.1 x.2.2 f.1 f.2.1 f.2.2 false (by rw [sameB_iff]; exact decide_eq_false hxf)
        have hG := guard35
        have Hxf := Lib.hid hxf
        have Hall := Lib.hid hall
        clear hxf hall
        go_wp2
        go_quiet (fail)
        clear hE hG hw a0 a1 a2 z0 z1 z2
        go_wp2
        go_ret
        refine ⟨ret_int ?_, m + nq, World.drewN_drewN ..⟩
        exact cnt_of l f n k HN.out h0 HF.out hk Hall.out (.inr ⟨x, Hrev.out, Hxf.out⟩)
    · have hlt' : decide ((k : Int) ≤ (n : Int) - 1) = false := by simp; omega
      have Hall := Lib.hid hall
      clear hall
      go_wp2
      go_quiet (fail)
      go_wp2
      go_ret
      refine ⟨ret_int ?_, m + nq, World.drewN_drewN ..⟩
      exact cnt_of l f n k HN.out h0 HF.out hk Hall.out (.inl (by omega))

theorem refCount_any (w : World) (A : Option Addr) (n c : Nat) (l : List (Int × Int × Int)) (hr : Rd w A n 3 (l.flatMap fcells)) (hn : l.length = n) (h9 : n ≤ 100000) :
    Calls Try.prog 21 #[.slice A n c] w fun e w' => e = .returned (.int .i64 (cntL l)) ∧ ∃ m, w' = w.drewN m := by
  rcases Nat.eq_zero_or_pos n with h0 | h0
  · subst h0
    have hl : l = [] := List.eq_nil_of_length_eq_zero hn
    subst hl
    clear hr hn
    go_enter Try.func21, Try.ntmps21
    go_wp2
    go_loopw [3, 4] (fun cn i wr => cn = .int .i64 0 ∧ i = .int .i64 (-1) ∧ wr = w) (fun _ _ _ => 0)
    case atStart => exact ⟨rfl, rfl, rfl⟩
    case round =>
      obtain ⟨rfl, rfl, rfl⟩ := hrel
      go_wp2
      go_quiet (fail)
      go_wp2
      go_ret
      exact ⟨rfl, _, rfl⟩
  · obtain ⟨b, off, rfl, _, hc⟩ := hr.2.2 h0
    exact refCount_some w b off n c l hn h0 h9 hc

end Go.Proofs.Ytfmmaigaanikgaa
