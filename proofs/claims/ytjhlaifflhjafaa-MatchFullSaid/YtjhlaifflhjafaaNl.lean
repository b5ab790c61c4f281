import Derived.Test.YtjhlaifflhjafaaNk
namespace Go.Proofs.Ytjhlaifflhjafaa
open Go.RowKit

set_option maxHeartbeats 3200000 in
set_option maxRecDepth 100000 in
theorem matchFull_walk (w : World) (x : Int) : Calls Try.prog 7 #[.int .i64 x] w fun e w' => e = .returned (.bool true) ∧ Below w.heap.size w w' := by
  by_cases hx : x < 0 ∨ 5 < x
  · rcases (show x < 0 ∨ (¬ x < 0 ∧ 5 < x) by omega) with h1 | ⟨h1, h2⟩
    · clear hx
      go_enter Try.func7, Try.ntmps7
      go_wp2_with (go_at_call 32; refine (awake32 _).mono ?_; rintro e w1 ⟨rfl, hb1⟩)
      go_ret
      exact ⟨rfl, hb1⟩
    · clear hx
      have d1 : decide (x < 0) = false := by simp; omega
      have d2 : decide (5 < x) = true := by simp; omega
      clear h1 h2
      go_enter Try.func7, Try.ntmps7
      go_wp2_with (go_at_call 32; refine (awake32 _).mono ?_; rintro e w1 ⟨rfl, hb1⟩)
      go_ret
      exact ⟨rfl, hb1⟩
  obtain ⟨m, rfl⟩ : ∃ m : Nat, x = m := ⟨x.toNat, by omega⟩
  have hm5 : m ≤ 5 := by omega
  have d1 : decide ((m : Int) < 0) = false := by simp
  have d2 : decide (5 < (m : Int)) = false := by simp; omega
  have hw1 : IntKind.i64.wrap (512 + (m : Int)) = ((512 + m : Nat) : Int) := by rw [IntWalk.i64_in _ (by omega)]; omega
  clear hx
  obtain ⟨T, hT⟩ : ∃ T, 512 + m = T := ⟨_, rfl⟩
  rw [hT] at hw1
  have hT9 : T ≤ 517 := by omega
  have HT := Lib.hid hT
  clear hT
  go_enter Try.func7, Try.ntmps7
  go_upto_region 6 with (first
    | (go_at_call 32; refine (awake32 _).mono ?_; rintro e w1 ⟨rfl, hb1⟩)
    | (go_at_call 33; refine (mo33 _).mono ?_; rintro e w2 ⟨rfl, h2, hb2⟩))
  have hs1 := hb1.size
  refine cutW (fun W => (∃ L v0 v1, MbAt W w1.heap.size v0 v1 (L, []) ∧ FullI L 0) ∧ Below w.heap.size w W) ⟨⟨[], _, _, h2, MbOk.empty, rfl, fun _ h => (by cases h)⟩, hb1.trans (hb2.mono hb1.size)⟩ ?_
  clear h2 hb2 hb1
  generalize w1.heap.size = mb at *
  rintro W ⟨hL, hB⟩
  have HL := Lib.hid hL
  have HB := Lib.hid hB
  clear hL hB d1 d2
  go_wp2_with fail
  go_loopw [18] (fun i wr => ∃ k : Nat, k ≤ T ∧ i = .int .i64 k ∧ (∃ L v0 v1, MbAt wr mb v0 v1 (L, []) ∧ FullI L k) ∧ Below w.heap.size w wr) (fun i _ => T - (intOf i).toNat)
  case atStart => exact ⟨0, by omega, rfl, HL.out, HB.out⟩
  case round =>
    clear HL HB
    obtain ⟨k, hk, rfl, ⟨L, v0, v1, hmb, hf⟩, hB⟩ := hrel
    have HB := Lib.hid hB
    have HM := Lib.hid hmb
    have HF := Lib.hid hf
    have hT := HT.out
    clear hB hmb hf
    by_cases hlt : k < T
    · obtain ⟨r, hr⟩ : ∃ r : Nat, k % 7 = r := ⟨_, rfl⟩
      have hr7 : r < 7 := by omega
      have q1 : (k : Int) % 7 = (r : Int) := by omega
      have q2 : Int.tmod (k : Int) 7 = (r : Int) := by rw [Int.tmod_eq_emod_of_nonneg (by omega)]; exact q1
      obtain ⟨L', hf', he1, he2⟩ := HF.out.step (by omega) (1 + (r : Int)) (by omega) (by omega)
      have HF' := Lib.hid hf'
      have hn35 := fun V => name35 V k (by omega)
      have HN := Lib.hid hn35
      have hadd : ∀ V, MbAt V mb v0 v1 (L, []) → Calls Try.prog 34 #[.pointer (some ⟨mb, 0, none⟩), .string (nmI k), .int .i64 1, .int .i64 1, .int .i64 (1 + (r : Int))] V fun e w' => ∃ v, e = .returned (.tuple #[v, .int .i64 (if k < 512 then 0 else 40)]) ∧ MbTo V mb v0 v1 (L', []) w' := fun V hV => (mo34 V mb v0 v1 _ hV HF.out.ok (nmI k) 1 1 (1 + (r : Int))).mono fun e w' ⟨v, h1, h2, h3⟩ => ⟨v, by rw [h1, he2], by rw [← he1]; exact h3⟩
      have HA := Lib.hid hadd
      clear hr he1 he2 hf' hn35 hadd
      by_cases h5 : k < 512
      · rw [if_pos h5] at HA
        have d1 : decide ((k : Int) < 512) = true := by simp; omega
        have d2 : decide ((512 : Int) ≤ k) = false := by simp; omega
        clear h5 hT
        go_wp2_with (first
          | (go_at_call 35; refine (HN.out _).mono ?_; rintro e w2 ⟨rfl, hb2⟩)
          | (go_at_call 34; refine (HA.out _ (HM.out.below hb2)).mono ?_; rintro e w3 ⟨v, rfl, hto⟩))
        go_roundw
        case rel =>
          have hB2 := HB.out.trans (hb2.mono HB.out.size)
          have hB3 := hto.below (HM.out.below hb2) hB2 hs1
          obtain ⟨u0, u1, ha, -, -⟩ := hto
          exact ⟨k + 1, by omega, by go_num, ⟨L', u0, u1, ha, HF'.out⟩, hB3⟩
        case measure => simp [intOf]; omega
      · rw [if_neg h5] at HA
        have d1 : decide ((k : Int) < 512) = false := by simp; omega
        have d2 : decide ((512 : Int) ≤ k) = true := by simp; omega
        clear h5 hT
        go_wp2_with (first
          | (go_at_call 35; refine (HN.out _).mono ?_; rintro e w2 ⟨rfl, hb2⟩)
          | (go_at_call 34; refine (HA.out _ (HM.out.below hb2)).mono ?_; rintro e w3 ⟨v, rfl, hto⟩))
        go_roundw
        case rel =>
          have hB2 := HB.out.trans (hb2.mono HB.out.size)
          have hB3 := hto.below (HM.out.below hb2) hB2 hs1
          obtain ⟨u0, u1, ha, -, -⟩ := hto
          exact ⟨k + 1, by omega, by go_num, ⟨L', u0, u1, ha, HF'.out⟩, hB3⟩
        case measure => simp [intOf]; omega
    · obtain rfl : k = T := by omega
      have hlen : L.length = 512 := by rw [HF.out.len]; exact Nat.min_eq_right (by omega)
      have hc := mo36 wr mb v0 v1 (L, []) HM.out
      simp only [hlen, List.length_nil] at hc
      have HC := Lib.hid hc
      clear hc hlen hT
      go_wp2_with (go_at_call 36; refine HC.out.mono ?_; rintro e w2 ⟨rfl, hb2⟩)
      go_ret
      exact ⟨ret_bool (by simp), HB.out.trans (hb2.mono HB.out.size)⟩

end Go.Proofs.Ytjhlaifflhjafaa
