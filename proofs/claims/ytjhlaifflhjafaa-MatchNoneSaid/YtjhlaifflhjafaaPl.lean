import Derived.Test.YtjhlaifflhjafaaPk
namespace Go.Proofs.Ytjhlaifflhjafaa
open Go.RowKit

theorem eq145 (w : World) (a2 b2 a3 b3 : Int) (a0 b0 a1 b1 : ByteArray) : (Op.equalIn 10000 145 (.agg #[.string a0, .string a1, .int .i64 a2, .int .i64 a3]) (.agg #[.string b0, .string b1, .int .i64 b2, .int .i64 b3])).run Try.prog w = .ok (a0.toList == b0.toList && (a1.toList == b1.toList && (a2 == b2 && (a3 == b3 && true)))) w :=
  eqA_of Try.underlying145 (by kernel_rfl) (eqf_cons (by rfl) (by kernel_rfl) (by kernel_rfl) (run_equalIn_string w _ _ _ _ Try.underlying9)
    (eqf_cons (by rfl) (by kernel_rfl) (by kernel_rfl) (run_equalIn_string w _ _ _ _ Try.underlying9)
    (eqf_cons (by rfl) (by kernel_rfl) (by kernel_rfl) (eqI (k := .i64) Try.underlying3)
    (eqf_cons (by rfl) (by kernel_rfl) (by kernel_rfl) (eqI (k := .i64) Try.underlying3) eqf_nil))))
theorem ne145_same (a0 a1 : ByteArray) (a2 a3 : Int) : ∀ w, (binOp .neq 145 (.agg #[.string a0, .string a1, .int .i64 a2, .int .i64 a3]) (.agg #[.string a0, .string a1, .int .i64 a2, .int .i64 a3])).run Try.prog w = .ok (.bool false) w := by
  intro w; rw [run_neq_struct, eq145]; simp
theorem eq132 (w : World) (a0 b0 a1 b1 a2 b2 : Int) : (Op.equalIn 10000 132 (.agg #[.int .i64 a0, .int .i64 a1, .int .i64 a2]) (.agg #[.int .i64 b0, .int .i64 b1, .int .i64 b2])).run Try.prog w = .ok (a0 == b0 && (a1 == b1 && (a2 == b2 && true))) w :=
  eqA_of Try.underlying132 (by kernel_rfl) (eqf_cons (by rfl) (by kernel_rfl) (by kernel_rfl) (eqI (k := .i64) Try.underlying3)
    (eqf_cons (by rfl) (by kernel_rfl) (by kernel_rfl) (eqI (k := .i64) Try.underlying3)
    (eqf_cons (by rfl) (by kernel_rfl) (by kernel_rfl) (eqI (k := .i64) Try.underlying3) eqf_nil)))
theorem ne132_same (a0 a1 a2 : Int) : ∀ w, (binOp .neq 132 (.agg #[.int .i64 a0, .int .i64 a1, .int .i64 a2]) (.agg #[.int .i64 a0, .int .i64 a1, .int .i64 a2])).run Try.prog w = .ok (.bool false) w := by
  intro w; rw [run_neq_struct, eq132]; simp
theorem guard145 : Try.prog.eqGuardType Try.prog.depth 145 = false := by kernel_rfl
theorem guard132 : Try.prog.eqGuardType Try.prog.depth 132 = false := by kernel_rfl

theorem trx_cells {W : World} {A : Option Addr} {n : Nat} {M : List Tr} (h : Rd W A n 4 (M.flatMap trC)) {j : Nat} {x : Tr} (hj : j < n) (hx : M[j]? = some x) :
    ∃ g off, A = some ⟨g, off, none⟩ ∧ W.cell? ⟨g, off + j * 4, none⟩ = some (.string x.maker) ∧ W.cell? ⟨g, off + j * 4 + 1, none⟩ = some (.string x.taker) ∧ W.cell? ⟨g, off + j * 4 + 2, none⟩ = some (.int .i64 x.qty) ∧ W.cell? ⟨g, off + j * 4 + 3, none⟩ = some (.int .i64 x.price) := by
  obtain ⟨g, off, hA, -, hg⟩ := h.2.2 (by omega)
  refine ⟨g, off, hA, ?_, ?_, ?_, ?_⟩
  · exact hg _ _ (flat_at trC 4 trC_len M j 0 x hx (by omega))
  · rw [Nat.add_assoc]; exact hg _ _ (flat_at trC 4 trC_len M j 1 x hx (by omega))
  · rw [Nat.add_assoc]; exact hg _ _ (flat_at trC 4 trC_len M j 2 x hx (by omega))
  · rw [Nat.add_assoc]; exact hg _ _ (flat_at trC 4 trC_len M j 3 x hx (by omega))

set_option maxHeartbeats 1600000 in
set_option maxRecDepth 100000 in
theorem tr76 (w : World) (A B : Option Addr) (n ca cb : Nat) (ts : List Tr) (ha : Rd w A n 4 (ts.flatMap trC)) (hb : Rd w B n 4 (ts.flatMap trC)) (hl : ts.length = n) :
    Calls Try.prog 76 #[.slice A n ca, .slice B n cb] w fun e w' => e = .returned (.bool true) ∧ Below w.heap.size w w' := by
  have HA := Lib.hid ha
  have HB := Lib.hid hb
  have HL := Lib.hid hl
  have h9 := ha.2.1
  have hg := guard145
  clear ha hb hl
  go_enter Try.func76, Try.ntmps76
  go_wp2_with fail
  go_loopw [14] (fun i wr => ∃ k : Nat, k ≤ n ∧ i = .int .i64 k ∧ Below w.heap.size w wr) (fun i _ => n - (intOf i).toNat)
  case atStart => exact ⟨0, by omega, rfl, Below.refl _ _⟩
  case round =>
    obtain ⟨k, hk, rfl, hBw⟩ := hrel
    have HBw := Lib.hid hBw
    by_cases hlt : k < n
    · obtain ⟨x, hx⟩ : ∃ x, ts[k]? = some x := ⟨_, List.getElem?_eq_getElem (by rw [HL.out]; exact hlt)⟩
      obtain ⟨g, off, rfl, x0, x1, x2, x3⟩ := trx_cells (HA.out.below hBw) hlt hx
      have HX := Lib.hid hx
      clear hx hBw
      go_upto_region 6 with (fail)
      have hO := Ob.new wr 108 [.string x.maker, .string x.taker, .int .i64 x.qty, .int .i64 x.price]
      refine cutW (fun Y => Ob Y wr.heap.size 108 [.string x.maker, .string x.taker, .int .i64 x.qty, .int .i64 x.price] ∧ Below w.heap.size w Y) ⟨hO, HBw.out.trans ((Below.alloc_set : Below wr.heap.size wr _).mono HBw.out.size)⟩ ?_
      clear hO HBw x0 x1 x2 x3
      generalize wr.heap.size = N at *
      rintro Y ⟨hO, hBY⟩
      have hoc := hO.cell
      obtain ⟨g2, off2, rfl, y0, y1, y2, y3⟩ := trx_cells (HB.out.below hBY) hlt HX.out
      have HBY := Lib.hid hBY
      have hne := ne145_same x.maker x.taker x.qty x.price
      clear hO hBY
      go_quiet (fail)
      go_upto_region 8 with (fail)
      refine cutW (fun Y => Below w.heap.size w Y) (Below.drewN HBY.out _) ?_
      clear hoc y0 y1 y2 y3 HBY hne Y
      rintro Y hBY
      have HBY := Lib.hid hBY
      clear hBY
      go_wp2_with fail
      go_roundw
      case rel => exact ⟨k + 1, by omega, by go_num, HBY.out⟩
      case measure => simp [intOf]; omega
    · obtain rfl : k = n := by omega
      clear hBw
      go_wp2_with fail
      go_ret
      exact ⟨rfl, HBw.out⟩

end Go.Proofs.Ytjhlaifflhjafaa
