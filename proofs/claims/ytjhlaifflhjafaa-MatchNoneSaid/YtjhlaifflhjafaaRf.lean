import Derived.Test.YtjhlaifflhjafaaRe
namespace Go.Proofs.Ytjhlaifflhjafaa
open Go.RowKit

/-- sort.Search over place's closure: the least index at which it says yes. -/
theorem srch (w : World) (p1 p2 : Value) (n K : Nat) (hn : n ≤ 100000) (pr : Nat → Bool) (hK : K ≤ n) (h0 : ∀ j, j < K → pr j = false) (h1 : ∀ j, K ≤ j → j < n → pr j = true)
    (hf : ∀ k i : Nat, i < n → Calls Try.prog 86 #[.int .i64 i, p1, p2] (w.drewN k) fun e w' => e = .returned (.bool (pr i)) ∧ ∃ q, w' = w.drewN q) :
    Calls Try.prog 85 #[.int .i64 n, .func (.func 86) #[] #[p1, p2]] w fun e w' => e = .returned (.int .i64 K) ∧ ∃ q, w' = w.drewN q := by
  have H0 := Lib.hid h0
  have H1 := Lib.hid h1
  have HF := Lib.hid hf
  clear h0 h1 hf
  go_enter Try.func85, Try.ntmps85
  go_wp2_with fail
  go_loopw [5, 6] (fun i j wr => ∃ a b q : Nat, i = .int .i64 a ∧ j = .int .i64 b ∧ a ≤ K ∧ K ≤ b ∧ b ≤ n ∧ wr = w.drewN q) (fun i j _ => (intOf j - intOf i).toNat)
  case atStart => exact ⟨0, n, 0, rfl, rfl, by omega, by omega, by omega, rfl⟩
  case round =>
    obtain ⟨a, b, q, rfl, rfl, ha, hb, hbn, rfl⟩ := hrel
    by_cases hlt : a < b
    · obtain ⟨m, hm⟩ : ∃ m, (a + b) / 2 = m := ⟨_, rfl⟩
      have hmi : ((a : Int) + b) / 2 = (m : Int) := by omega
      have hma : a ≤ m := by omega
      have hmb : m < b := by omega
      have hmn : m < n := by omega
      have hw1 : IntKind.i64.wrap ((m : Int) + 1) = (m : Int) + 1 := by rw [IntWalk.i64_in _ (by omega)]
      clear hm
      have hc := HF.out q m hmn
      cases hp : pr m with
      | false =>
        rw [hp] at hc
        have HC := Lib.hid hc
        have hmK : m < K := by
          rcases Nat.lt_or_ge m K with h | h
          · exact h
          · rw [H1.out m h hmn] at hp; cases hp
        clear hc hp
        go_wp2_with (go_at_call 86; refine HC.out.mono ?_; rintro e w' ⟨rfl, q2, rfl⟩)
        go_roundw
        case rel => exact ⟨m + 1, b, q2, by go_num, rfl, by omega, hb, hbn, rfl⟩
        case measure => simp [intOf]; omega
      | true =>
        rw [hp] at hc
        have HC := Lib.hid hc
        have hmK : K ≤ m := by
          rcases Nat.lt_or_ge m K with h | h
          · rw [H0.out m h] at hp; cases hp
          · exact h
        clear hc hp
        go_wp2_with (go_at_call 86; refine HC.out.mono ?_; rintro e w' ⟨rfl, q2, rfl⟩)
        go_roundw
        case rel => exact ⟨a, m, q2, rfl, rfl, ha, hmK, by omega, rfl⟩
        case measure => simp [intOf]; omega
    · obtain rfl : a = b := by omega
      obtain rfl : K = a := by omega
      go_wp2_with fail
      go_ret
      exact ⟨rfl, _, rfl⟩

/-- The order of the names. -/
def bl (a b : ByteArray) : Bool := Op.bytesLess a.toList b.toList
theorem bL_irrefl : ∀ l : List UInt8, Op.bytesLess l l = false
  | [] => rfl
  | a :: l => by simp [Op.bytesLess, bL_irrefl l]
theorem bL_trans : ∀ a b c : List UInt8, Op.bytesLess a b = true → Op.bytesLess b c = true → Op.bytesLess a c = true
  | _, _, [], _, h => by cases ‹List UInt8› <;> simp [Op.bytesLess] at h
  | _, [], _ :: _, h, _ => by cases ‹List UInt8› <;> simp [Op.bytesLess] at h
  | [], _ :: _, _ :: _, _, _ => rfl
  | a :: x, b :: y, c :: z, h1, h2 => by
    simp only [Op.bytesLess, Bool.or_eq_true, Bool.and_eq_true, decide_eq_true_eq, beq_iff_eq] at h1 h2 ⊢
    rcases h1 with h1 | ⟨rfl, h1⟩
    · rcases h2 with h2 | ⟨rfl, h2⟩
      · exact .inl (UInt8.lt_trans h1 h2)
      · exact .inl h1
    · rcases h2 with h2 | ⟨rfl, h2⟩
      · exact .inl h2
      · exact .inr ⟨rfl, bL_trans x y z h1 h2⟩
theorem bL_total : ∀ a b : List UInt8, Op.bytesLess a b = false → Op.bytesLess b a = false → a = b
  | [], [], _, _ => rfl
  | [], _ :: _, h, _ => by simp [Op.bytesLess] at h
  | _ :: _, [], _, h => by simp [Op.bytesLess] at h
  | a :: x, b :: y, h1, h2 => by
    simp only [Op.bytesLess, Bool.or_eq_false_iff, decide_eq_false_iff_not, Bool.and_eq_false_iff, beq_eq_false_iff_ne, ne_eq] at h1 h2
    have hab : a = b := UInt8.le_antisymm (UInt8.not_lt.1 h2.1) (UInt8.not_lt.1 h1.1)
    subst hab
    have h1' := h1.2.resolve_left (fun h => h rfl)
    have h2' := h2.2.resolve_left (fun h => h rfl)
    rw [bL_total x y h1' h2']
theorem toList_inj {a b : ByteArray} (h : a.toList = b.toList) : a = b := by
  rw [ByteArray.toList_eq, ByteArray.toList_eq] at h
  have : a.data = b.data := Array.toList_inj.1 h
  cases a; cases b; simp_all
theorem bl_irrefl (a : ByteArray) : bl a a = false := bL_irrefl _
theorem bl_trans {a b c : ByteArray} (h1 : bl a b = true) (h2 : bl b c = true) : bl a c = true := bL_trans _ _ _ h1 h2
theorem bl_total {a b : ByteArray} (h1 : bl a b = false) (h2 : bl b a = false) : a = b := toList_inj (bL_total _ _ h1 h2)
theorem bl_ne {a b : ByteArray} (h : bl a b = true) : a ≠ b := by rintro rfl; rw [bl_irrefl] at h; cases h
theorem bl_asymm {a b : ByteArray} (h : bl a b = true) : bl b a = false := by
  cases hb : bl b a with
  | false => rfl
  | true => have := bl_trans h hb; rw [bl_irrefl] at this; cases this
theorem bl_empty (a : ByteArray) : bl a ⟨#[]⟩ = false := by
  unfold bl
  have : (⟨#[]⟩ : ByteArray).toList = [] := by rw [ByteArray.toList_eq]
  rw [this]
  cases a.toList <;> rfl

end Go.Proofs.Ytjhlaifflhjafaa
