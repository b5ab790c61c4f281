import Derived.Test.YtfmmaigaanikgaaSt
namespace Go.Proofs.Ytfmmaigaanikgaa
open Go.RowKit

/-- In the loop over the same execution: the state at round k. -/
def TripsAt (B s : Nat) (w wr : World) (m v q p v' q' p' : Int) (k : Nat) : Prop :=
  Two23 B w wr false false v q p v' q' p' ∧ B + 1 < s ∧ ∃ v0 q0 p0 c0 : Int, Ob wr s 42 [.int .i64 m, .int .i64 v0, .int .i64 q0, .int .i64 p0, .int .i64 c0, .bool false] ∧ (0 ≤ c0 ∧ c0 < 100000) ∧
    (k = 0 → nc c0 (sameB v q p v0 q0 p0) = 1) ∧ (0 < k → c0 = k ∧ sameB v q p v0 q0 p0 = true)

theorem trips_next (c0 k : Int) (same : Bool) (hk : c0 = k) (h : 0 < k) (hs : same = true) : nc c0 same = k + 1 := by
  subst hk; subst hs; exact if_neg (by simp; omega)

set_option maxHeartbeats 1000000 in
set_option maxRecDepth 100000 in
theorem streakTrips_in (w : World) (m v q p v' q' p' : Int) (h1 : 2 ≤ m) (h2 : m ≤ 100) (hs : sameB v q p v' q' p' = false) :
    Calls Try.prog 3 #[.int .i64 m, .agg #[.bool false, .int .i64 v, .int .i64 q, .int .i64 p], .agg #[.bool false, .int .i64 v', .int .i64 q', .int .i64 p']] w fun e w' => e = .returned (.bool true) ∧ Below w.heap.size w w' := by
  have e1 := eql23 false false v q p v' q' p' false (by rw [hs]; rfl)
  have g1 := guard23
  have Hs := Lib.hid hs
  clear hs
  go_enter Try.func3, Try.ntmps3
  go_wp2_with fail
  refine (awake07 _).mono ?_
  rintro e w1 ⟨rfl, hbw⟩
  have hT := (two23_start w false false v q p v' q' p').below hbw
  have ho := hT.1.cell
  have ho' := hT.2.1.cell
  go_wp2_with fail
  refine (streakNew_yes _ m h1 (by omega)).mono ?_
  rintro e w2 ⟨rfl, rfl⟩
  clear ho ho' e1 g1 hbw
  go_wp2_with fail
  refine cutW (fun W => TripsAt w.heap.size w1.heap.size w W m v q p v' q' p' 0) ?_ ?_
  · have hl := hT.2.1.lt
    refine ⟨hT.below ((Below.refl _ _).alloc (Nat.le_refl _) _), hl, 0, 0, 0, 0, Ob.new w1 42 [.int .i64 m, .int .i64 0, .int .i64 0, .int .i64 0, .int .i64 0, .bool false], by omega, fun _ => rfl, fun h => absurd h (by omega)⟩
  clear hT
  intro W hT
  have Hst : (w.heap.size + 1) < w1.heap.size := hT.2.1
  generalize w1.heap.size = s at *
  clear w1
  go_loopw [39] (fun i wr => ∃ k : Nat, (k : Int) ≤ m - 1 ∧ i = .int .i64 k ∧ TripsAt w.heap.size s w wr m v q p v' q' p' k) (fun i _ => 200 - (intOf i).toNat)
  case atStart => exact ⟨0, by omega, rfl, hT⟩
  case round =>
    obtain ⟨k, hk, rfl, hT2, _, v0, q0, p0, c0, hO, ⟨hc0, hc9⟩, hz, hp⟩ := hrel
    have ho := hT2.1.cell
    clear hT
    by_cases hlt : (k : Int) < m - 1
    · have hn : (k : Int) + 1 = nc c0 (sameB v q p v0 q0 p0) := by
        rcases Nat.eq_zero_or_pos k with h | h
        · rw [hz h, h]; rfl
        · rw [trips_next c0 k _ (hp h).1 (by omega) (hp h).2]
      have hd : decide (m ≤ (k : Int) + 1) = false := by simp; omega
      clear hz hp
      go_wp2_with fail
      refine (note_any _ s m v q p v0 q0 p0 c0 false hO (by omega) hc0 hc9 ((k : Int) + 1) false hn (by rw [hd]; rfl)).mono ?_
      rintro e w3 ⟨rfl, hO3, hU3⟩
      have hT3 := hT2.upd hU3 Hst
      clear hn hd
      go_wp2_with fail
      go_roundw
      case rel => exact ⟨k + 1, by omega, by go_num, hT3, Hst, v, q, p, _, hO3, by omega, fun h => absurd h (by omega), fun _ => ⟨by omega, sameB_refl _ _ _⟩⟩
      case measure => simp [intOf]; omega
    · have ho' := hT2.2.1.cell
      have hcv : c0 = m - 1 ∧ sameB v q p v0 q0 p0 = true := ⟨by have := (hp (by omega)).1; omega, (hp (by omega)).2⟩
      have hdiff : sameB v' q' p' v0 q0 p0 = false := by
        have h1 := hcv.2
        have h2 := Hs.out
        simp only [sameB, Bool.and_true, Bool.and_eq_true, beq_iff_eq] at h1
        obtain ⟨rfl, rfl, rfl⟩ := h1
        rw [← Bool.not_eq_true] at h2 ⊢
        intro hx
        apply h2
        simp only [sameB, Bool.and_true, Bool.and_eq_true, beq_iff_eq] at hx ⊢
        exact ⟨hx.1.symm, hx.2.1.symm, hx.2.2.symm⟩
      have hn : (1 : Int) = nc c0 (sameB v' q' p' v0 q0 p0) := by rw [hdiff]; exact (if_pos (.inr rfl)).symm
      have hd : decide (m ≤ (1 : Int)) = false := by simp; omega
      clear hz hp hcv hdiff
      go_wp2_with fail
      refine (note_any _ s m v' q' p' v0 q0 p0 c0 false hO (by omega) hc0 hc9 1 false hn (by rw [hd]; rfl)).mono ?_
      rintro e w3 ⟨rfl, hO3, hU3⟩
      have hT3 := hT2.upd hU3 Hst
      clear hn hd hT2 hO hU3 ho ho'
      go_wp2_with fail
      refine (count_some _ _ _ _ _ _ _ _ hO3 (by omega)).mono ?_
      rintro e w4 ⟨rfl, rfl⟩
      go_wp2_with fail
      refine cutW (fun W => TripsAt w.heap.size s w W m v q p v' q' p' 0) ?_ ?_
      · exact ⟨hT3, Hst, v', q', p', 1, hO3, by omega, fun _ => by rw [Hs.out]; exact if_pos (.inr rfl), fun h => absurd h (by omega)⟩
      clear hT3 hO3 hk hlt
      clear w3
      intro W hT
      go_loopw [65] (fun i wr => ∃ k : Nat, (k : Int) ≤ m - 1 ∧ i = .int .i64 k ∧ TripsAt w.heap.size s w wr m v q p v' q' p' k) (fun i _ => 200 - (intOf i).toNat)
      case atStart => exact ⟨0, by omega, rfl, hT⟩
      case round =>
        rename_i k0 _ _ _ _ _ _ _ _ _
        obtain ⟨k, hk, rfl, hT2, _, v0, q0, p0, c0, hO, ⟨hc0, hc9⟩, hz, hp⟩ := hrel
        have ho := hT2.1.cell
        clear hT
        by_cases hlt : (k : Int) < m - 1
        · have hn : (k : Int) + 1 = nc c0 (sameB v q p v0 q0 p0) := by
            rcases Nat.eq_zero_or_pos k with h | h
            · rw [hz h, h]; rfl
            · rw [trips_next c0 k _ (hp h).1 (by omega) (hp h).2]
          have hd : decide (m ≤ (k : Int) + 1) = false := by simp; omega
          clear hz hp
          go_wp2_with fail
          refine (note_any _ s m v q p v0 q0 p0 c0 false hO (by omega) hc0 hc9 ((k : Int) + 1) false hn (by rw [hd]; rfl)).mono ?_
          rintro e w3 ⟨rfl, hO3, hU3⟩
          have hT3 := hT2.upd hU3 Hst
          clear hn hd
          go_wp2_with fail
          go_roundw
          case rel => exact ⟨k + 1, by omega, by go_num, hT3, Hst, v, q, p, _, hO3, by omega, fun h => absurd h (by omega), fun _ => ⟨by omega, sameB_refl _ _ _⟩⟩
          case measure => simp [intOf]; omega
        · have ho' := hT2.2.1.cell
          have hn : m = nc c0 (sameB v q p v0 q0 p0) := by
            rw [trips_next c0 k _ (hp (by omega)).1 (by omega) (hp (by omega)).2]; omega
          have hd : decide (m ≤ m) = true := by simp
          clear hz hp
          go_wp2_with fail
          refine (note_any _ s m v q p v0 q0 p0 c0 false hO (by omega) hc0 hc9 m true hn (by rw [hd]; rfl)).mono ?_
          rintro e w3 ⟨rfl, hO3, hU3⟩
          have hT3 := hT2.upd hU3 Hst
          clear hn hd hT2 hO hU3 ho ho'
          have ho := hT3.1.cell
          have ho' := hT3.2.1.cell
          go_wp2_with fail
          refine (note_any _ s m v' q' p' v q p m true hO3 (by omega) (by omega) (by omega) _ true rfl (by simp)).mono ?_
          rintro e w4 ⟨rfl, hO4, hU4⟩
          have hT4 := hT3.upd hU4 Hst
          go_wp2_with fail
          go_ret
          exact ⟨rfl, hT4.2.2⟩

theorem streakTrips_walk (w : World) (x0 : Int) (x1 x2 : Bool × Int × Int × Int) :
    Calls Try.prog 3 #[.int .i64 x0, .agg #[.bool x1.1, .int .i64 x1.2.1, .int .i64 x1.2.2.1, .int .i64 x1.2.2.2], .agg #[.bool x2.1, .int .i64 x2.2.1, .int .i64 x2.2.2.1, .int .i64 x2.2.2.2]] w fun e w' => e = .returned (.bool true) ∧ Below w.heap.size w w' := by
  obtain ⟨c, v, q, p⟩ := x1
  obtain ⟨c', v', q', p'⟩ := x2
  by_cases h : (decide (x0 < 2) || (decide (100 < x0) || ((c == c' && sameB v q p v' q' p') || (c || c')))) = true
  · exact streakTrips_out w x0 v q p v' q' p' c c' h
  · simp only [Bool.or_eq_true, decide_eq_true_eq, not_or, Bool.not_eq_true, Int.not_lt] at h
    obtain ⟨h1, h2, h3, h4, h5⟩ := h
    subst h4; subst h5
    exact streakTrips_in w x0 v q p v' q' p' h1 h2 (by simpa using h3)

end Go.Proofs.Ytfmmaigaanikgaa
