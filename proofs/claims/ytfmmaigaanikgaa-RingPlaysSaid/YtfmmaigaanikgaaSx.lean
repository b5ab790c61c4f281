import Derived.Test.YtfmmaigaanikgaaSw
namespace Go.Proofs.Ytfmmaigaanikgaa
open Go.RowKit

/-- Were there ever so many? -/
def tripL (l : List (Int × Int × Int)) (m : Int) : Bool := (List.range l.length).any fun i => decide (m ≤ cntL (l.take (i + 1)))

theorem tripL_yes {l : List (Int × Int × Int)} {m : Int} {k : Nat} (hk : k < l.length) (h : m ≤ cntL (l.take (k + 1))) : tripL l m = true :=
  List.any_eq_true.2 ⟨k, List.mem_range.2 hk, decide_eq_true h⟩
theorem tripL_no {l : List (Int × Int × Int)} {m : Int} (h : ∀ k, k < l.length → (cntL (l.take (k + 1)) : Int) < m) : tripL l m = false := by
  rw [← Bool.not_eq_true]
  intro hx
  obtain ⟨k, hk, hd⟩ := List.any_eq_true.1 hx
  have := h k (List.mem_range.1 hk)
  have := of_decide_eq_true hd
  omega

theorem fcells_take (l : List (Int × Int × Int)) (k : Nat) : (l.flatMap fcells).take (k * 3) = (l.take k).flatMap fcells := by
  induction l generalizing k with
  | nil => simp
  | cons a l ih =>
    cases k with
    | zero => simp
    | succ k =>
      rw [List.take_succ_cons, List.flatMap_cons, List.flatMap_cons, ← ih, List.take_append]
      have : (fcells a).length = 3 := rfl
      rw [List.take_of_length_le (by omega), this]
      congr 2
      omega

set_option maxHeartbeats 400000 in
set_option maxRecDepth 100000 in
theorem refTripped_any (w : World) (A : Option Addr) (n c : Nat) (m : Int) (l : List (Int × Int × Int)) (hr : Rd w A n 3 (l.flatMap fcells)) (hn : l.length = n) (h9 : n ≤ 100000) (hc : n ≤ c) (hc9 : c ≤ 9223372036854775807) :
    Calls Try.prog 20 #[.slice A n c, .int .i64 m] w fun e w' => e = .returned (.bool (tripL l m)) ∧ ∃ k, w' = w.drewN k := by
  have HN := Lib.hid hn
  have HR := Lib.hid hr
  clear hn hr
  go_enter Try.func20, Try.ntmps20
  go_wp2
  go_loopw [5] (fun i wr => ∃ k : Nat, k ≤ n ∧ i = .int .i64 ((k : Int) + 1) ∧ (∀ j, j < k → (cntL (l.take (j + 1)) : Int) < m) ∧ ∃ d, wr = w.drewN d) (fun i _ => n + 1 - (intOf i).toNat)
  case atStart => exact ⟨0, by omega, rfl, fun j hj => absurd hj (by omega), 0, rfl⟩
  case round =>
    obtain ⟨k, hk, rfl, hall, d, rfl⟩ := hrel
    have Hall := Lib.hid hall
    clear hall
    by_cases hlt : k < n
    · obtain ⟨b, off, hA, _, _⟩ := HR.out.2.2 (by omega)
      subst hA
      have hcnt : ∀ W : World, (W = w.drewN d) → Calls Try.prog 21 #[.slice (some ⟨b, off, none⟩) (k + 1) c] W fun e w' => e = .returned (.int .i64 (cntL (l.take (k + 1)))) ∧ ∃ m, w' = W.drewN m := by
        rintro W rfl
        have h1 := HR.out.take (m := k + 1) (by omega)
        rw [fcells_take] at h1
        exact refCount_any (w.drewN d) _ (k + 1) c (l.take (k + 1)) h1 (by rw [List.length_take, HN.out]; omega) (by omega)
      have Hcnt := Lib.hid hcnt
      clear hcnt
      have hle : (k : Int) + 1 ≤ n := by omega
      go_wp2_with fail
      refine (Hcnt.out _ rfl).mono ?_
      rintro e w1 ⟨rfl, d1, rfl⟩
      generalize hx : cntL (l.take (k + 1)) = x
      have Hx := Lib.hid hx
      clear hx
      by_cases hge : m ≤ (x : Int)
      · go_wp2_with fail
        go_ret
        refine ⟨ret_bool ?_, d + d1, rfl⟩
        exact (tripL_yes (k := k) (by rw [HN.out]; exact hlt) (by rw [Hx.out]; exact hge)).symm
      · go_wp2_with fail
        go_roundw
        case rel =>
          refine ⟨k + 1, by omega, by go_num, fun j hj => ?_, d + d1, rfl⟩
          rcases Nat.lt_or_ge j k with h | h
          · exact Hall.out j h
          · obtain rfl : j = k := by omega
            rw [Hx.out]; omega
        case measure => simp [intOf]; omega
    · have hle : ¬ (k : Int) + 1 ≤ n := by omega
      go_wp2
      go_ret
      refine ⟨ret_bool ?_, d, rfl⟩
      exact (tripL_no fun j hj => Hall.out j (by have := HN.out; omega)).symm

/-! The plain law: one more execution. -/
def lastIs (l : List (Int × Int × Int)) (f : Int × Int × Int) : Bool := decide (l.getLast? = some f)

theorem cntL_snoc (l : List (Int × Int × Int)) (f : Int × Int × Int) : (cntL (l ++ [f]) : Int) = nc (cntL l) (lastIs l f) := by
  unfold cntL lastIs nc
  rw [List.reverse_append, List.reverse_singleton, List.singleton_append, ← List.head?_reverse]
  cases h : l.reverse with
  | nil => simp [lead]
  | cons a r =>
    simp only [lead, List.head?_cons, Option.some.injEq]
    by_cases e : a = f
    · subst e
      simp
      omega
    · simp [e]

theorem tripL_snoc (l : List (Int × Int × Int)) (f : Int × Int × Int) (m : Int) : tripL (l ++ [f]) m = (tripL l m || decide (m ≤ (cntL (l ++ [f]) : Int))) := by
  unfold tripL
  rw [List.length_append, List.length_singleton, List.range_succ, List.any_append]
  congr 1
  · rw [Bool.eq_iff_iff, List.any_eq_true, List.any_eq_true]
    constructor
    · rintro ⟨k, hk, h⟩
      have hk' := List.mem_range.1 hk
      rw [List.take_append_of_le_length (by omega)] at h
      exact ⟨k, hk, h⟩
    · rintro ⟨k, hk, h⟩
      have hk' := List.mem_range.1 hk
      exact ⟨k, hk, by rw [List.take_append_of_le_length (by omega)]; exact h⟩
  · simp only [List.any_cons, List.any_nil, Bool.or_false]
    rw [List.take_of_length_le (by simp)]

end Go.Proofs.Ytfmmaigaanikgaa
