import Derived.Test.YteggpdhkpmkldaaQg
namespace Go.Proofs.Yteggpdhkpmkldaa
open Go.RowKit

def nmC : ByteArray := ⟨#[99]⟩
def oC : Od := ⟨2, 0, nmC, ⟨#[]⟩, 0, 0, 0⟩
set_option maxHeartbeats 1600000 in
set_option maxRecDepth 100000 in
theorem awake37 (w : World) : Calls Try.prog 37 #[] w fun e w' => e = .returned (.bool true) ∧ Below w.heap.size w w' := by
  have hro : roB { oC with sq := 1 } = true := by kernel_rfl
  have Hro := Lib.hid hro
  clear hro
  go_enter Try.func37, Try.ntmps37
  go_wp2_with fail
  refine (seNew_yes w 2 (by decide) (by decide)).mono ?_
  rintro e w1 ⟨sb, rb, g, rfl, hS, hR, hb1, hb2, hb3, hl1, hl2, hB⟩
  have h1 : SsAt w1 sb rb g 2 0 [] (List.replicate 2 zOd) 0 0 0 false := ⟨hS, hR, by omega, by omega⟩
  clear hS hR
  have tk : ∀ (v v' : World), Below w.heap.size w v → Mods (fun k => k = sb) v v' → Below w.heap.size w v' := fun v v' a b => Below.mods a b (fun k hk => by omega) a.size
  have Tk := Lib.hid tk
  clear tk
  go_wp2_with fail
  refine (seTake w1 sb rb 0 0 0 false h1.hse (by decide) (by decide) 1).mono ?_
  rintro e w2 ⟨he, hS, hM⟩
  obtain rfl : e = .returned (.int .i64 0) := he
  have h2 : SsAt w2 sb rb g 2 0 [] (List.replicate 2 zOd) 0 1 0 false := ⟨hS, h1.hro.mods hM (Ne.symm h1.n1) (Ne.symm h1.n2), h1.n1, h1.n2⟩
  have hB2 := Tk.out _ _ hB hM
  clear hS hM h1 hB
  go_wp2_with fail
  refine (seTake w2 sb rb 0 1 0 false h2.hse (by decide) (by decide) 1).mono ?_
  rintro e w3 ⟨he, hS, hM⟩
  obtain rfl : e = .returned (.int .i64 220) := he
  have h3 : SsAt w3 sb rb g 2 0 [] (List.replicate 2 zOd) 0 1 0 false := ⟨hS, h2.hro.mods hM (Ne.symm h2.n1) (Ne.symm h2.n2), h2.n1, h2.n2⟩
  have hB3 := Tk.out _ _ hB2 hM
  clear hS hM h2 hB2
  go_wp2_with fail
  refine (seTake w3 sb rb 0 1 0 false h3.hse (by decide) (by decide) 3).mono ?_
  rintro e w4 ⟨he, hS, hM⟩
  obtain rfl : e = .returned (.int .i64 221) := he
  have h4 : SsAt w4 sb rb g 2 0 [] (List.replicate 2 zOd) 0 1 0 false := ⟨hS, h3.hro.mods hM (Ne.symm h3.n1) (Ne.symm h3.n2), h3.n1, h3.n2⟩
  have hB4 := Tk.out _ _ hB3 hM
  clear hS hM h3 hB3
  go_wp2_with fail
  refine (seTake w4 sb rb 0 1 0 false h4.hse (by decide) (by decide) 2).mono ?_
  rintro e w5 ⟨he, hS, hM⟩
  obtain rfl : e = .returned (.int .i64 0) := he
  have h5 : SsAt w5 sb rb g 2 0 [] (List.replicate 2 zOd) 0 2 0 false := ⟨hS, h4.hro.mods hM (Ne.symm h4.n1) (Ne.symm h4.n2), h4.n1, h4.n2⟩
  have hB5 := Tk.out _ _ hB4 hM
  clear hS hM h4 hB4
  go_wp2_with fail
  refine (seSend w5 sb rb g 2 0 [] _ 0 2 0 false h5 (by decide) (by decide) oC).mono ?_
  rintro e w6 (⟨-, hf, -⟩ | ⟨-, -, hf, -⟩ | ⟨-, -, -, hf, -⟩ | ⟨he, -, -, -, arr', h6, hM⟩)
  · rw [Hro.out] at hf; cases hf
  · cases hf
  · cases hf
  obtain rfl : e = .returned (.tuple #[.int .i64 1, .int .i64 0]) := he
  have hB6 : Below w.heap.size w w6 := Below.mods hB5 hM (fun k hk => by omega) hB5.size
  have h6' : SsAt w6 sb rb g 2 0 [{ oC with sq := 1 }] arr' 1 2 0 false := h6
  clear hM h5 hB5 h6
  go_wp2_with fail
  refine (sePop_some w6 sb rb g 2 0 _ [] arr' 1 2 0 false h6').mono ?_
  rintro e w7 ⟨he, f', a', -, hM⟩
  obtain rfl : e = .returned (.tuple #[.agg #[.int .i64 2, .int .i64 1, .string ⟨#[99]⟩, .string ⟨#[]⟩, .int .i64 0, .int .i64 0, .int .i64 0], .int .i64 0]) := he
  have hB7 : Below w.heap.size w w7 := Below.mods hB6 hM (fun k hk => by omega) hB6.size
  have HB7 := Lib.hid hB7
  clear hM h6' hB6 hB7
  go_wp2_with fail
  go_ret
  exact ⟨rfl, HB7.out.alloc HB7.out.size _⟩

end Go.Proofs.Yteggpdhkpmkldaa
