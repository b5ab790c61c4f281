import Derived.Test.YtjhlaifflhjafaaNi
namespace Go.Proofs.Ytjhlaifflhjafaa
open Go.RowKit

theorem eq108 (w : World) (a2 b2 a3 b3 : Int) (a0 b0 a1 b1 : ByteArray) : (Op.equalIn 10000 108 (.agg #[.string a0, .string a1, .int .i64 a2, .int .i64 a3]) (.agg #[.string b0, .string b1, .int .i64 b2, .int .i64 b3])).run Try.prog w = .ok (a0.toList == b0.toList && (a1.toList == b1.toList && (a2 == b2 && (a3 == b3 && true)))) w :=
  eqA_of Try.underlying108 (by kernel_rfl) (eqf_cons (by rfl) (by kernel_rfl) (by kernel_rfl) (run_equalIn_string w _ _ _ _ Try.underlying9)
    (eqf_cons (by rfl) (by kernel_rfl) (by kernel_rfl) (run_equalIn_string w _ _ _ _ Try.underlying9)
    (eqf_cons (by rfl) (by kernel_rfl) (by kernel_rfl) (eqI (k := .i64) Try.underlying3)
    (eqf_cons (by rfl) (by kernel_rfl) (by kernel_rfl) (eqI (k := .i64) Try.underlying3) eqf_nil))))
theorem eql108_same (a0 a1 : ByteArray) (a2 a3 : Int) : ∀ w, (binOp .eql 108 (.agg #[.string a0, .string a1, .int .i64 a2, .int .i64 a3]) (.agg #[.string a0, .string a1, .int .i64 a2, .int .i64 a3])).run Try.prog w = .ok (.bool true) w := by
  intro w; rw [run_eql_struct, eq108]; simp
theorem guard108 : Try.prog.eqGuardType Try.prog.depth 108 = false := by kernel_rfl

set_option maxHeartbeats 3200000 in
set_option maxRecDepth 100000 in
theorem awake32 (w : World) : Calls Try.prog 32 #[] w fun e w' => e = .returned (.bool true) ∧ Below w.heap.size w w' := by
  have e1 : addM ([], []) nA 1 10 99 = (([], 0), ([⟨nA, 10, 99⟩], [])) := by kernel_rfl
  have e2 : addM ([⟨nA, 10, 99⟩], []) nB 1 10 100 = (([], 0), ([⟨nB, 10, 100⟩, ⟨nA, 10, 99⟩], [])) := by kernel_rfl
  have e3 : addM ([⟨nB, 10, 100⟩, ⟨nA, 10, 99⟩], []) nC 2 15 99 = (([⟨nB, nC, 10, 100⟩, ⟨nA, nC, 5, 99⟩], 0), ([⟨nA, 5, 99⟩], [])) := by kernel_rfl
  have e4 : leftM ([⟨nA, 5, 99⟩], []) nA = (5, true) := by kernel_rfl
  have k1 := MbOk.empty
  have k2 := (k1.add (by decide) nA 1 10 99).1
  rw [e1] at k2
  have k3 := (k2.add (by decide) nB 1 10 100).1
  rw [e2] at k3
  have E1 := Lib.hid e1
  have E2 := Lib.hid e2
  have E3 := Lib.hid e3
  have E4 := Lib.hid e4
  have K1 := Lib.hid k1
  have K2 := Lib.hid k2
  have K3 := Lib.hid k3
  clear e1 e2 e3 e4 k1 k2 k3
  go_enter Try.func32, Try.ntmps32
  go_wp2_with fail
  refine (mo33 w).mono ?_
  rintro e w1 ⟨rfl, h1, hB1⟩
  have hs1 := hB1.size
  go_wp2_with fail
  refine (mo34 w1 _ _ _ _ h1 K1.out nA 1 10 99).mono ?_
  rw [E1.out]
  rintro e w2 ⟨t2, rfl, -, hto⟩
  have hB2 := hto.below h1 hB1 (Nat.le_refl _)
  obtain ⟨u0, u1, h2, -, -⟩ := hto
  clear h1 hB1
  go_wp2_with fail
  refine (mo34 w2 _ _ _ _ h2 K2.out nB 1 10 100).mono ?_
  rw [E2.out]
  rintro e w3 ⟨t3, rfl, -, hto⟩
  have hB3 := hto.below h2 hB2 (Nat.le_refl _)
  obtain ⟨u0', u1', h3, -, -⟩ := hto
  clear h2 hB2
  go_wp2_with fail
  refine (mo34 w3 _ _ _ _ h3 K3.out nC 2 15 99).mono ?_
  rw [E3.out]
  rintro e w4 ⟨t4, rfl, hown, hto⟩
  have hB4 := hto.below h3 hB3 (Nat.le_refl _)
  obtain ⟨x0, x1, h4, -, -⟩ := hto
  clear h3 hB3
  go_wp2_with fail
  refine (mo48 w4 _ _ _ _ h4 nA).mono ?_
  rw [E4.out]
  rintro e w5 ⟨rfl, hb5⟩
  have hB5 := hB4.trans (hb5.mono hB4.size)
  have hown5 := own_mods hown (Below.mods_ hb5 (fun _ => False)) (fun _ _ h => h)
  obtain ⟨A, c, rfl, hR, -, -⟩ := own_shape hown5
  obtain ⟨g, off, rfl, -, hg⟩ := hR.2.2 (by decide)
  have c0 : w5.cell? ⟨g, off, none⟩ = some (.string nB) := hg 0 _ rfl
  have c1 : w5.cell? ⟨g, off + 1, none⟩ = some (.string nC) := hg 1 _ rfl
  have c2 : w5.cell? ⟨g, off + 2, none⟩ = some (.int .i64 10) := hg 2 _ rfl
  have c3 : w5.cell? ⟨g, off + 3, none⟩ = some (.int .i64 100) := hg 3 _ rfl
  have c6 : w5.cell? ⟨g, off + 6, none⟩ = some (.int .i64 5) := hg 6 _ rfl
  have hq : ∀ w, (binOp .eql 108 (.agg #[.string nB, .string nC, .int .i64 10, .int .i64 100]) (.agg #[.string ⟨#[98]⟩, .string ⟨#[99]⟩, .int .i64 10, .int .i64 100])).run Try.prog w = .ok (.bool true) w := eql108_same nB nC 10 100
  have hgd := guard108
  have HB5 := Lib.hid hB5
  clear hB5 hB4 hb5 hown hown5 h4 hR hg
  go_wp2_with fail
  go_ret
  exact ⟨rfl, HB5.out⟩

end Go.Proofs.Ytjhlaifflhjafaa
