/-
  No cell of these rows narrows 'for every input' (looked for: loops, veiled, ifaces, maps, wideKeys, modest, calm, conditions, laid).
  DERIVED. THE GIVEN ROWS OF THIS SEAT. 12 by the template 'for every input the law returns true; each argument reads behind the call as it read before'; 0 by the template 'total and deterministic' (their statements: YtfmmaigaanikgaaTotals.lean).
  GIVEN WITH THE SEED: the statements are not yours to turn. If you find one false, say at which input.
  Laid BY PROGRAM, IN A SANDBOX (cutbox-rows.mjs): the forced cells as the released guide's own fill.sh prints them over the translation 883b5e418a88cfd0… (all of the seat's roots in one cut). By AI agents, Wed Nov 11 2026. No macro, syntax, notation, axiom, sorry.
-/
import Derived.Test.YtfmmaigaanikgaaChecked
import GoSem.Claim
import GoSem.ClaimJoined
import GoSem.ClaimMapViews
import Derived.JoinedTies
import Derived.KernelRfl
namespace Go.Proofs.Ytfmmaigaanikgaa
/- THE CELL 'sum', in the pinned program and in every row, IS THE sha256 OF THE DUMP (.gsa) THAT YtfmmaigaanikgaaProg.lean LOADS. Nothing in Lean hashes anything: it is a label: what it is worth is what the hold of that sum in a sandbox is worth. -/
noncomputable def Try.pinned : Pinned := { name := "ytfmmaigaanikgaa", sum := "883b5e418a88cfd0edcbff780f7addf4aa5558e6b911d959909b4a9819b33b91", checked := Try.checked }
namespace Rows
def none {H : Type} : Left H := { results := [], args := [] }

/-- 'spigotlaw07.StreakTrips': WHATEVER THE INPUT: true; the input reads as it did. -/
def streakTripsSpec : ChangeSpec := { name := "streakTrips", fn := fun _ => fun
  | [d1, d2, d3] => { results := [.lit (.bool true)], args := [d1, d2, d3] }
  | _ => none }
def streakTripsRow : OpenClaim := { program := "ytfmmaigaanikgaa", sum := "883b5e418a88cfd0edcbff780f7addf4aa5558e6b911d959909b4a9819b33b91", func := "spigot/spigotlaw07.StreakTrips", spec := "streakTrips", apart := false }
def StreakTripsSaid : Prop := streakTripsRow.holds Try.pinned (OpenSpec.ofChange streakTripsSpec)

/-- ITS FALSE NEIGHBOUR: 'it returns false'. Refute it at one input. -/
def streakTripsWrong : ChangeSpec := { name := "streakTrips", fn := fun _ => fun
  | [d1, d2, d3] => { results := [.lit (.bool false)], args := [d1, d2, d3] }
  | _ => none }
def StreakTripsWrongFalsely : Prop := streakTripsRow.holds Try.pinned (OpenSpec.ofChange streakTripsWrong)

/-- 'spigotlaw07.StreakPlays': WHATEVER THE INPUT: true; the input reads as it did. -/
def streakPlaysSpec : ChangeSpec := { name := "streakPlays", fn := fun _ => fun
  | [d1, d2] => { results := [.lit (.bool true)], args := [d1, d2] }
  | _ => none }
def streakPlaysRow : OpenClaim := { program := "ytfmmaigaanikgaa", sum := "883b5e418a88cfd0edcbff780f7addf4aa5558e6b911d959909b4a9819b33b91", func := "spigot/spigotlaw07.StreakPlays", spec := "streakPlays", apart := false }
def StreakPlaysSaid : Prop := streakPlaysRow.holds Try.pinned (OpenSpec.ofChange streakPlaysSpec)

/-- ITS FALSE NEIGHBOUR: 'it returns false'. Refute it at one input. -/
def streakPlaysWrong : ChangeSpec := { name := "streakPlays", fn := fun _ => fun
  | [d1, d2] => { results := [.lit (.bool false)], args := [d1, d2] }
  | _ => none }
def StreakPlaysWrongFalsely : Prop := streakPlaysRow.holds Try.pinned (OpenSpec.ofChange streakPlaysWrong)

/-- 'spigotlaw07.StreakNone': WHATEVER THE INPUT: true; the input reads as it did. -/
def streakNoneSpec : ChangeSpec := { name := "streakNone", fn := fun _ => fun
  | [d] => { results := [.lit (.bool true)], args := [d] }
  | _ => none }
def streakNoneRow : OpenClaim := { program := "ytfmmaigaanikgaa", sum := "883b5e418a88cfd0edcbff780f7addf4aa5558e6b911d959909b4a9819b33b91", func := "spigot/spigotlaw07.StreakNone", spec := "streakNone", apart := false }
def StreakNoneSaid : Prop := streakNoneRow.holds Try.pinned (OpenSpec.ofChange streakNoneSpec)

/-- ITS FALSE NEIGHBOUR: 'it returns false'. Refute it at one input. -/
def streakNoneWrong : ChangeSpec := { name := "streakNone", fn := fun _ => fun
  | [d] => { results := [.lit (.bool false)], args := [d] }
  | _ => none }
def StreakNoneWrongFalsely : Prop := streakNoneRow.holds Try.pinned (OpenSpec.ofChange streakNoneWrong)

/-- 'spigotlaw20.MatrixNexts': WHATEVER THE INPUT: true; the input reads as it did. -/
def matrixNextsSpec : ChangeSpec := { name := "matrixNexts", fn := fun _ => fun
  | [d1, d2, d3] => { results := [.lit (.bool true)], args := [d1, d2, d3] }
  | _ => none }
def matrixNextsRow : OpenClaim := { program := "ytfmmaigaanikgaa", sum := "883b5e418a88cfd0edcbff780f7addf4aa5558e6b911d959909b4a9819b33b91", func := "spigot/spigotlaw20.MatrixNexts", spec := "matrixNexts", apart := false }
def MatrixNextsSaid : Prop := matrixNextsRow.holds Try.pinned (OpenSpec.ofChange matrixNextsSpec)

/-- ITS FALSE NEIGHBOUR: 'it returns false'. Refute it at one input. -/
def matrixNextsWrong : ChangeSpec := { name := "matrixNexts", fn := fun _ => fun
  | [d1, d2, d3] => { results := [.lit (.bool false)], args := [d1, d2, d3] }
  | _ => none }
def MatrixNextsWrongFalsely : Prop := matrixNextsRow.holds Try.pinned (OpenSpec.ofChange matrixNextsWrong)

/-- 'spigotlaw20.MatrixRuns': WHATEVER THE INPUT: true; the input reads as it did. -/
def matrixRunsSpec : ChangeSpec := { name := "matrixRuns", fn := fun _ => fun
  | [d1, d2] => { results := [.lit (.bool true)], args := [d1, d2] }
  | _ => none }
def matrixRunsRow : OpenClaim := { program := "ytfmmaigaanikgaa", sum := "883b5e418a88cfd0edcbff780f7addf4aa5558e6b911d959909b4a9819b33b91", func := "spigot/spigotlaw20.MatrixRuns", spec := "matrixRuns", apart := false }
def MatrixRunsSaid : Prop := matrixRunsRow.holds Try.pinned (OpenSpec.ofChange matrixRunsSpec)

/-- ITS FALSE NEIGHBOUR: 'it returns false'. Refute it at one input. -/
def matrixRunsWrong : ChangeSpec := { name := "matrixRuns", fn := fun _ => fun
  | [d1, d2] => { results := [.lit (.bool false)], args := [d1, d2] }
  | _ => none }
def MatrixRunsWrongFalsely : Prop := matrixRunsRow.holds Try.pinned (OpenSpec.ofChange matrixRunsWrong)

/-- 'spigotlaw20.MatrixWords': WHATEVER THE INPUT: true; the input reads as it did. -/
def matrixWordsSpec : ChangeSpec := { name := "matrixWords", fn := fun _ => fun
  | [d] => { results := [.lit (.bool true)], args := [d] }
  | _ => none }
def matrixWordsRow : OpenClaim := { program := "ytfmmaigaanikgaa", sum := "883b5e418a88cfd0edcbff780f7addf4aa5558e6b911d959909b4a9819b33b91", func := "spigot/spigotlaw20.MatrixWords", spec := "matrixWords", apart := false }
def MatrixWordsSaid : Prop := matrixWordsRow.holds Try.pinned (OpenSpec.ofChange matrixWordsSpec)

/-- ITS FALSE NEIGHBOUR: 'it returns false'. Refute it at one input. -/
def matrixWordsWrong : ChangeSpec := { name := "matrixWords", fn := fun _ => fun
  | [d] => { results := [.lit (.bool false)], args := [d] }
  | _ => none }
def MatrixWordsWrongFalsely : Prop := matrixWordsRow.holds Try.pinned (OpenSpec.ofChange matrixWordsWrong)

/-- 'spigotlaw05.RingFirst': WHATEVER THE INPUT: true; the input reads as it did. -/
def ringFirstSpec : ChangeSpec := { name := "ringFirst", fn := fun _ => fun
  | [d1, d2, d3] => { results := [.lit (.bool true)], args := [d1, d2, d3] }
  | _ => none }
def ringFirstRow : OpenClaim := { program := "ytfmmaigaanikgaa", sum := "883b5e418a88cfd0edcbff780f7addf4aa5558e6b911d959909b4a9819b33b91", func := "spigot/spigotlaw05.RingFirst", spec := "ringFirst", apart := false }
def RingFirstSaid : Prop := ringFirstRow.holds Try.pinned (OpenSpec.ofChange ringFirstSpec)

/-- ITS FALSE NEIGHBOUR: 'it returns false'. Refute it at one input. -/
def ringFirstWrong : ChangeSpec := { name := "ringFirst", fn := fun _ => fun
  | [d1, d2, d3] => { results := [.lit (.bool false)], args := [d1, d2, d3] }
  | _ => none }
def RingFirstWrongFalsely : Prop := ringFirstRow.holds Try.pinned (OpenSpec.ofChange ringFirstWrong)

/-- 'spigotlaw06.WindowBounds': WHATEVER THE INPUT: true; the input reads as it did. -/
def windowBoundsSpec : ChangeSpec := { name := "windowBounds", fn := fun _ => fun
  | [d1, d2, d3] => { results := [.lit (.bool true)], args := [d1, d2, d3] }
  | _ => none }
def windowBoundsRow : OpenClaim := { program := "ytfmmaigaanikgaa", sum := "883b5e418a88cfd0edcbff780f7addf4aa5558e6b911d959909b4a9819b33b91", func := "spigot/spigotlaw06.WindowBounds", spec := "windowBounds", apart := false }
def WindowBoundsSaid : Prop := windowBoundsRow.holds Try.pinned (OpenSpec.ofChange windowBoundsSpec)

/-- ITS FALSE NEIGHBOUR: 'it returns false'. Refute it at one input. -/
def windowBoundsWrong : ChangeSpec := { name := "windowBounds", fn := fun _ => fun
  | [d1, d2, d3] => { results := [.lit (.bool false)], args := [d1, d2, d3] }
  | _ => none }
def WindowBoundsWrongFalsely : Prop := windowBoundsRow.holds Try.pinned (OpenSpec.ofChange windowBoundsWrong)

/-- 'spigotlaw06.WindowNone': WHATEVER THE INPUT: true; the input reads as it did. -/
def windowNoneSpec : ChangeSpec := { name := "windowNone", fn := fun _ => fun
  | [d] => { results := [.lit (.bool true)], args := [d] }
  | _ => none }
def windowNoneRow : OpenClaim := { program := "ytfmmaigaanikgaa", sum := "883b5e418a88cfd0edcbff780f7addf4aa5558e6b911d959909b4a9819b33b91", func := "spigot/spigotlaw06.WindowNone", spec := "windowNone", apart := false }
def WindowNoneSaid : Prop := windowNoneRow.holds Try.pinned (OpenSpec.ofChange windowNoneSpec)

/-- ITS FALSE NEIGHBOUR: 'it returns false'. Refute it at one input. -/
def windowNoneWrong : ChangeSpec := { name := "windowNone", fn := fun _ => fun
  | [d] => { results := [.lit (.bool false)], args := [d] }
  | _ => none }
def WindowNoneWrongFalsely : Prop := windowNoneRow.holds Try.pinned (OpenSpec.ofChange windowNoneWrong)

/-- 'spigotlaw06.WindowOpens': WHATEVER THE INPUT: true; the input reads as it did. -/
def windowOpensSpec : ChangeSpec := { name := "windowOpens", fn := fun _ => fun
  | [d1, d2, d3] => { results := [.lit (.bool true)], args := [d1, d2, d3] }
  | _ => none }
def windowOpensRow : OpenClaim := { program := "ytfmmaigaanikgaa", sum := "883b5e418a88cfd0edcbff780f7addf4aa5558e6b911d959909b4a9819b33b91", func := "spigot/spigotlaw06.WindowOpens", spec := "windowOpens", apart := false }
def WindowOpensSaid : Prop := windowOpensRow.holds Try.pinned (OpenSpec.ofChange windowOpensSpec)

/-- ITS FALSE NEIGHBOUR: 'it returns false'. Refute it at one input. -/
def windowOpensWrong : ChangeSpec := { name := "windowOpens", fn := fun _ => fun
  | [d1, d2, d3] => { results := [.lit (.bool false)], args := [d1, d2, d3] }
  | _ => none }
def WindowOpensWrongFalsely : Prop := windowOpensRow.holds Try.pinned (OpenSpec.ofChange windowOpensWrong)

/-- 'spigotlaw05.RingPlays': WHATEVER THE INPUT: true; the input reads as it did. -/
def ringPlaysSpec : ChangeSpec := { name := "ringPlays", fn := fun _ => fun
  | [d1, d2, d3] => { results := [.lit (.bool true)], args := [d1, d2, d3] }
  | _ => none }
def ringPlaysRow : OpenClaim := { program := "ytfmmaigaanikgaa", sum := "883b5e418a88cfd0edcbff780f7addf4aa5558e6b911d959909b4a9819b33b91", func := "spigot/spigotlaw05.RingPlays", spec := "ringPlays", unfollowed := true, recurses := true, apart := false }
def RingPlaysSaid : Prop := ringPlaysRow.holds Try.pinned (OpenSpec.ofChange ringPlaysSpec)

/-- ITS FALSE NEIGHBOUR: 'it returns false'. Refute it at one input. -/
def ringPlaysWrong : ChangeSpec := { name := "ringPlays", fn := fun _ => fun
  | [d1, d2, d3] => { results := [.lit (.bool false)], args := [d1, d2, d3] }
  | _ => none }
def RingPlaysWrongFalsely : Prop := ringPlaysRow.holds Try.pinned (OpenSpec.ofChange ringPlaysWrong)

/-- 'spigotlaw05.RingNone': WHATEVER THE INPUT: true; the input reads as it did. -/
def ringNoneSpec : ChangeSpec := { name := "ringNone", fn := fun _ => fun
  | [d] => { results := [.lit (.bool true)], args := [d] }
  | _ => none }
def ringNoneRow : OpenClaim := { program := "ytfmmaigaanikgaa", sum := "883b5e418a88cfd0edcbff780f7addf4aa5558e6b911d959909b4a9819b33b91", func := "spigot/spigotlaw05.RingNone", spec := "ringNone", unfollowed := true, recurses := true, apart := false }
def RingNoneSaid : Prop := ringNoneRow.holds Try.pinned (OpenSpec.ofChange ringNoneSpec)

/-- ITS FALSE NEIGHBOUR: 'it returns false'. Refute it at one input. -/
def ringNoneWrong : ChangeSpec := { name := "ringNone", fn := fun _ => fun
  | [d] => { results := [.lit (.bool false)], args := [d] }
  | _ => none }
def RingNoneWrongFalsely : Prop := ringNoneRow.holds Try.pinned (OpenSpec.ofChange ringNoneWrong)

/- THE SECOND FORM. 'bulk': how many values and letters a reading holds, each counted each time it is reached (what is shared counts as often as it is met; a slice's spare places count too). A statement '..UptoSaid' is the law's where the arguments, and the package variables that the reading takes, are together of bulk at most 1048576: NARROWER than '..Said'. Prove '..Said' where nothing that the law and all that it calls make is longer than what came in: it says more and counts as full. Else prove '..UptoSaid'. A law counts once. -/
mutual
def uptoBulk {H : Type} : DataW H → Nat
  | .lit (.string bytes) => bytes.length + 1
  | .lit _ => 1
  | .nil => 1
  | .ptr d => uptoBulk d + 1
  | .slice elems spare => uptoBulkAll elems + uptoBulkAll spare + 1
  | .agg parts => uptoBulkAll parts + 1
  | .iface _ d => uptoBulk d + 1
  | .map entries => uptoBulkEntries entries + 1
  | .held _ => 1
def uptoBulkAll {H : Type} : List (DataW H) → Nat
  | [] => 0
  | d :: r => uptoBulk d + uptoBulkAll r
def uptoBulkEntries {H : Type} : List (Lit × DataW H) → Nat
  | [] => 0
  | x :: r => uptoBulkEntry x + uptoBulkEntries r
def uptoBulkEntry {H : Type} : Lit × DataW H → Nat
  | (.string bytes, d) => bytes.length + uptoBulk d + 1
  | (_, d) => uptoBulk d + 1
 end
def uptoSmall : (H : Type) → List (DataW H) → Bool := fun _ ds => decide (uptoBulkAll ds ≤ 1048576)
def OpenSpec.upto (s : _root_.Go.ChangeSpec) : _root_.Go.OpenSpec := { _root_.Go.OpenSpec.ofChange s with cond := some uptoSmall }

/-- 'spigotlaw07.StreakTrips', WHERE WHAT IT READS IS OF BULK AT MOST 1048576: true; the input reads as it did. -/
def streakTripsUptoRow : OpenClaim := { program := "ytfmmaigaanikgaa", sum := "883b5e418a88cfd0edcbff780f7addf4aa5558e6b911d959909b4a9819b33b91", func := "spigot/spigotlaw07.StreakTrips", spec := "streakTrips", apart := false, narrowed := true }
def StreakTripsUptoSaid : Prop := streakTripsUptoRow.holds Try.pinned (OpenSpec.upto streakTripsSpec)

/-- 'spigotlaw07.StreakPlays', WHERE WHAT IT READS IS OF BULK AT MOST 1048576: true; the input reads as it did. -/
def streakPlaysUptoRow : OpenClaim := { program := "ytfmmaigaanikgaa", sum := "883b5e418a88cfd0edcbff780f7addf4aa5558e6b911d959909b4a9819b33b91", func := "spigot/spigotlaw07.StreakPlays", spec := "streakPlays", apart := false, narrowed := true }
def StreakPlaysUptoSaid : Prop := streakPlaysUptoRow.holds Try.pinned (OpenSpec.upto streakPlaysSpec)

/-- 'spigotlaw07.StreakNone', WHERE WHAT IT READS IS OF BULK AT MOST 1048576: true; the input reads as it did. -/
def streakNoneUptoRow : OpenClaim := { program := "ytfmmaigaanikgaa", sum := "883b5e418a88cfd0edcbff780f7addf4aa5558e6b911d959909b4a9819b33b91", func := "spigot/spigotlaw07.StreakNone", spec := "streakNone", apart := false, narrowed := true }
def StreakNoneUptoSaid : Prop := streakNoneUptoRow.holds Try.pinned (OpenSpec.upto streakNoneSpec)

/-- 'spigotlaw20.MatrixNexts', WHERE WHAT IT READS IS OF BULK AT MOST 1048576: true; the input reads as it did. -/
def matrixNextsUptoRow : OpenClaim := { program := "ytfmmaigaanikgaa", sum := "883b5e418a88cfd0edcbff780f7addf4aa5558e6b911d959909b4a9819b33b91", func := "spigot/spigotlaw20.MatrixNexts", spec := "matrixNexts", apart := false, narrowed := true }
def MatrixNextsUptoSaid : Prop := matrixNextsUptoRow.holds Try.pinned (OpenSpec.upto matrixNextsSpec)

/-- 'spigotlaw20.MatrixRuns', WHERE WHAT IT READS IS OF BULK AT MOST 1048576: true; the input reads as it did. -/
def matrixRunsUptoRow : OpenClaim := { program := "ytfmmaigaanikgaa", sum := "883b5e418a88cfd0edcbff780f7addf4aa5558e6b911d959909b4a9819b33b91", func := "spigot/spigotlaw20.MatrixRuns", spec := "matrixRuns", apart := false, narrowed := true }
def MatrixRunsUptoSaid : Prop := matrixRunsUptoRow.holds Try.pinned (OpenSpec.upto matrixRunsSpec)

/-- 'spigotlaw20.MatrixWords', WHERE WHAT IT READS IS OF BULK AT MOST 1048576: true; the input reads as it did. -/
def matrixWordsUptoRow : OpenClaim := { program := "ytfmmaigaanikgaa", sum := "883b5e418a88cfd0edcbff780f7addf4aa5558e6b911d959909b4a9819b33b91", func := "spigot/spigotlaw20.MatrixWords", spec := "matrixWords", apart := false, narrowed := true }
def MatrixWordsUptoSaid : Prop := matrixWordsUptoRow.holds Try.pinned (OpenSpec.upto matrixWordsSpec)

/-- 'spigotlaw05.RingFirst', WHERE WHAT IT READS IS OF BULK AT MOST 1048576: true; the input reads as it did. -/
def ringFirstUptoRow : OpenClaim := { program := "ytfmmaigaanikgaa", sum := "883b5e418a88cfd0edcbff780f7addf4aa5558e6b911d959909b4a9819b33b91", func := "spigot/spigotlaw05.RingFirst", spec := "ringFirst", apart := false, narrowed := true }
def RingFirstUptoSaid : Prop := ringFirstUptoRow.holds Try.pinned (OpenSpec.upto ringFirstSpec)

/-- 'spigotlaw06.WindowBounds', WHERE WHAT IT READS IS OF BULK AT MOST 1048576: true; the input reads as it did. -/
def windowBoundsUptoRow : OpenClaim := { program := "ytfmmaigaanikgaa", sum := "883b5e418a88cfd0edcbff780f7addf4aa5558e6b911d959909b4a9819b33b91", func := "spigot/spigotlaw06.WindowBounds", spec := "windowBounds", apart := false, narrowed := true }
def WindowBoundsUptoSaid : Prop := windowBoundsUptoRow.holds Try.pinned (OpenSpec.upto windowBoundsSpec)

/-- 'spigotlaw06.WindowNone', WHERE WHAT IT READS IS OF BULK AT MOST 1048576: true; the input reads as it did. -/
def windowNoneUptoRow : OpenClaim := { program := "ytfmmaigaanikgaa", sum := "883b5e418a88cfd0edcbff780f7addf4aa5558e6b911d959909b4a9819b33b91", func := "spigot/spigotlaw06.WindowNone", spec := "windowNone", apart := false, narrowed := true }
def WindowNoneUptoSaid : Prop := windowNoneUptoRow.holds Try.pinned (OpenSpec.upto windowNoneSpec)

/-- 'spigotlaw06.WindowOpens', WHERE WHAT IT READS IS OF BULK AT MOST 1048576: true; the input reads as it did. -/
def windowOpensUptoRow : OpenClaim := { program := "ytfmmaigaanikgaa", sum := "883b5e418a88cfd0edcbff780f7addf4aa5558e6b911d959909b4a9819b33b91", func := "spigot/spigotlaw06.WindowOpens", spec := "windowOpens", apart := false, narrowed := true }
def WindowOpensUptoSaid : Prop := windowOpensUptoRow.holds Try.pinned (OpenSpec.upto windowOpensSpec)

/-- 'spigotlaw05.RingPlays', WHERE WHAT IT READS IS OF BULK AT MOST 1048576: true; the input reads as it did. -/
def ringPlaysUptoRow : OpenClaim := { program := "ytfmmaigaanikgaa", sum := "883b5e418a88cfd0edcbff780f7addf4aa5558e6b911d959909b4a9819b33b91", func := "spigot/spigotlaw05.RingPlays", spec := "ringPlays", unfollowed := true, recurses := true, apart := false, narrowed := true }
def RingPlaysUptoSaid : Prop := ringPlaysUptoRow.holds Try.pinned (OpenSpec.upto ringPlaysSpec)

/-- 'spigotlaw05.RingNone', WHERE WHAT IT READS IS OF BULK AT MOST 1048576: true; the input reads as it did. -/
def ringNoneUptoRow : OpenClaim := { program := "ytfmmaigaanikgaa", sum := "883b5e418a88cfd0edcbff780f7addf4aa5558e6b911d959909b4a9819b33b91", func := "spigot/spigotlaw05.RingNone", spec := "ringNone", unfollowed := true, recurses := true, apart := false, narrowed := true }
def RingNoneUptoSaid : Prop := ringNoneUptoRow.holds Try.pinned (OpenSpec.upto ringNoneSpec)

end Rows
end Go.Proofs.Ytfmmaigaanikgaa
