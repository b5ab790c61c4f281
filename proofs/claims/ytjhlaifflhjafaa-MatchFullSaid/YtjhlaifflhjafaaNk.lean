import Derived.Test.YtjhlaifflhjafaaNj
import Derived.Laws.Cover4
namespace Go.Proofs.Ytjhlaifflhjafaa
open Go.RowKit

def nmI (i : Nat) : ByteArray := runesBytes [110, ((48 + i / 100 % 10 : Nat) : Int), ((48 + i / 10 % 10 : Nat) : Int), ((48 + i % 10 : Nat) : Int)]
def decN (s : ByteArray) : Nat := 100 * ((s.data.getD 1 0).toNat - 48) + 10 * ((s.data.getD 2 0).toNat - 48) + ((s.data.getD 3 0).toNat - 48)
theorem nmI_dec : (List.range 520).all (fun i => decN (nmI i) == i) = true := by kernel_rfl
theorem nmI_name : (List.range 520).all (fun i => nameB (nmI i)) = true := by kernel_rfl
theorem nmI_inj {i j : Nat} (hi : i < 520) (hj : j < 520) (h : nmI i = nmI j) : i = j := by
  have h1 := List.all_eq_true.1 nmI_dec i (List.mem_range.2 hi)
  have h2 := List.all_eq_true.1 nmI_dec j (List.mem_range.2 hj)
  simp only [beq_iff_eq] at h1 h2
  rw [← h1, ← h2, h]
theorem nmI_ok {i : Nat} (hi : i < 520) : nameB (nmI i) = true := List.all_eq_true.1 nmI_name i (List.mem_range.2 hi)

set_option maxHeartbeats 1600000 in
set_option maxRecDepth 100000 in
theorem name35 (w : World) (i : Nat) (hi : i < 520) : Calls Try.prog 35 #[.int .i64 i] w fun e w' => e = .returned (.string (nmI i)) ∧ Below w.heap.size w w' := by
  have hN : nmI i = runesBytes [110, ((48 + i / 100 % 10 : Nat) : Int), ((48 + i / 10 % 10 : Nat) : Int), ((48 + i % 10 : Nat) : Int)] := rfl
  obtain ⟨a, ha⟩ : ∃ a : Nat, i / 100 % 10 = a := ⟨_, rfl⟩
  obtain ⟨b, hb⟩ : ∃ a : Nat, i / 10 % 10 = a := ⟨_, rfl⟩
  obtain ⟨c, hc⟩ : ∃ a : Nat, i % 10 = a := ⟨_, rfl⟩
  rw [ha, hb, hc] at hN
  have b1 : a < 10 := by omega
  have b2 : b < 10 := by omega
  have b3 : c < 10 := by omega
  have q1 : ((i : Int) / 100) % 10 = (a : Int) := by omega
  have q2 : ((i : Int) / 10) % 10 = (b : Int) := by omega
  have q3 : (i : Int) % 10 = (c : Int) := by omega
  have q4 : Int.tmod (Int.tdiv (i : Int) 100) 10 = (a : Int) := by rw [Int.tdiv_eq_ediv_of_nonneg (by omega), Int.tmod_eq_emod_of_nonneg (by omega)]; exact q1
  have q5 : Int.tmod (Int.tdiv (i : Int) 10) 10 = (b : Int) := by rw [Int.tdiv_eq_ediv_of_nonneg (by omega), Int.tmod_eq_emod_of_nonneg (by omega)]; exact q2
  have q6 : Int.tmod (i : Int) 10 = (c : Int) := by rw [Int.tmod_eq_emod_of_nonneg (by omega)]; exact q3
  clear ha hb hc
  have hcv : (convert 111 9 (.slice (some ⟨w.heap.size, 0, none⟩) 4 4)).run Try.prog (w.alloc (.cells #[.int .i32 110, .int .i32 (48 + (a : Int)), .int .i32 (48 + (b : Int)), .int .i32 (48 + (c : Int))] 21)) = .ok (.string (nmI i)) (w.alloc (.cells #[.int .i32 110, .int .i32 (48 + (a : Int)), .int .i32 (48 + (b : Int)), .int .i32 (48 + (c : Int))] 21)) := by
    have hO := Ob.new w 21 [.int .i32 110, .int .i32 (48 + (a : Int)), .int .i32 (48 + (b : Int)), .int .i32 (48 + (c : Int))]
    have hl := run_loadCells_list (P := Try.prog) (w.alloc (.cells [Value.int .i32 110, .int .i32 (48 + (a : Int)), .int .i32 (48 + (b : Int)), .int .i32 (48 + (c : Int))].toArray 21)) ⟨w.heap.size, 0, none⟩ _ (fun j v hj => by
      rw [Go.WideShapes.add_plain, Nat.zero_add]
      exact (hO.cell j).trans hj)
    rw [run_convert_runes_string _ _ _ 21 _ _ _ Try.underlying111 Try.underlying21 Try.underlying9, hN]
    exact run_runesToString _ ⟨w.heap.size, 0, none⟩ 4 4 [110, ((48 + a : Nat) : Int), ((48 + b : Nat) : Int), ((48 + c : Nat) : Int)] hl
  clear hN
  have hB : Below w.heap.size w (w.alloc (.cells #[.int .i32 110, .int .i32 (48 + (a : Int)), .int .i32 (48 + (b : Int)), .int .i32 (48 + (c : Int))] 21)) := Below.alloc_set
  have HB := Lib.hid hB
  clear hB
  go_enter Try.func35, Try.ntmps35
  go_wp2_with fail
  go_ret
  exact ⟨rfl, HB.out⟩

/-- The book after i orders, one name each. -/
structure FullI (L : List Mo) (i : Nat) : Prop where
  ok : MbOk (L, [])
  len : L.length = Nat.min i 512
  ids : ∀ x ∈ L, ∃ j, j < i ∧ x.id = nmI j
theorem FullI.not {L : List Mo} {i : Nat} (h : FullI L i) (hi : i < 520) : foundB (L, []) (nmI i) = false := by
  have e1 : mIdx L (nmI i) = L.length := idxP_none _ (fun j y hy => by
    cases he : eqB (nmI i) y.id with
    | false => rfl
    | true =>
      obtain ⟨k, hk, hid⟩ := h.ids y (List.mem_of_getElem? hy)
      have := eqB_iff.1 he
      rw [hid] at this
      have := nmI_inj (by omega) hi this
      omega)
  have e2 : mIdx [] (nmI i) = 0 := rfl
  unfold foundB findM
  simp only
  rw [e1, if_neg (by omega), e2, if_neg (by simp)]
  rfl
theorem FullI.step {L : List Mo} {i : Nat} (h : FullI L i) (hi : i < 520) (p : Int) (hp : 1 ≤ p) (hp2 : p ≤ 1099511627776) :
    ∃ L', FullI L' (i + 1) ∧ (addM (L, []) (nmI i) 1 1 p).2 = (L', []) ∧ (addM (L, []) (nmI i) 1 1 p).1.2 = if i < 512 then 0 else 40 := by
  have hl := h.len
  have hadd := h.ok.add (by simp only [List.length_nil]; have : Nat.min i 512 ≤ 512 := Nat.min_le_right _ _; omega) (nmI i) 1 1 p
  have e : addM (L, []) (nmI i) 1 1 p = if 512 ≤ L.length + 0 then (([], 40), (L, [])) else (((meetM 0 (L, []) (nmI i) 1 p).1, 0), (meetM 0 (L, []) (nmI i) 1 p).2) := by
    unfold addM
    rw [if_neg (by rw [nmI_ok hi]; decide), if_neg (by rw [okB_iff.2 ⟨⟨by omega, by omega⟩, ⟨by omega, by omega⟩, hp, hp2⟩]; decide), if_neg (by rw [h.not hi]; decide)]
    rfl
  rw [e] at hadd
  rw [e]
  have hm : (meetM 0 (L, []) (nmI i) 1 p).2 = (insM 1 ⟨nmI i, 1, p⟩ L, []) := rfl
  by_cases h5 : i < 512
  · have hl2 : L.length = i := by rw [hl]; exact Nat.min_eq_left (by omega)
    rw [if_neg (by omega)] at hadd ⊢
    rw [if_pos h5]
    simp only [hm] at hadd
    refine ⟨_, ⟨hadd.1, ?_, fun x hx => ?_⟩, hm, rfl⟩
    · rw [insM_len, hl2]; exact (Nat.min_eq_left (by omega)).symm
    · rcases insM_mem.1 hx with rfl | hx
      · exact ⟨i, by omega, rfl⟩
      · obtain ⟨j, hj, hid⟩ := h.ids x hx
        exact ⟨j, by omega, hid⟩
  · have hl2 : L.length = 512 := by rw [hl]; exact Nat.min_eq_right (by omega)
    rw [if_pos (by omega)] at hadd ⊢
    rw [if_neg h5]
    refine ⟨L, ⟨h.ok, ?_, fun x hx => ?_⟩, rfl, rfl⟩
    · rw [hl2]; exact (Nat.min_eq_right (by omega)).symm
    · obtain ⟨j, hj, hid⟩ := h.ids x hx
      exact ⟨j, by omega, hid⟩

end Go.Proofs.Ytjhlaifflhjafaa
