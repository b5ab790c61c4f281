/-
  No cell of these rows narrows 'for every input' (looked for: loops, veiled, ifaces, maps, wideKeys, modest, calm, conditions, laid).
  DERIVED. THE GIVEN ROWS OF THIS SEAT. 10 by the template 'for every input the law returns true; each argument reads behind the call as it read before'; 0 by the template 'total and deterministic' (their statements: YteggpdhkpmkldaaTotals.lean).
  GIVEN WITH THE SEED: the statements are not yours to turn. If you find one false, say at which input.
  Laid BY PROGRAM, IN A SANDBOX (cutbox-rows.mjs): the forced cells as the released guide's own fill.sh prints them over the translation db0160f4da239ff2… (all of the seat's roots in one cut). By AI agents, Wed Nov 11 2026. No macro, syntax, notation, axiom, sorry.
-/
import Derived.Test.YteggpdhkpmkldaaChecked
import GoSem.Claim
import GoSem.ClaimJoined
import GoSem.ClaimMapViews
import Derived.JoinedTies
import Derived.KernelRfl
namespace Go.Proofs.Yteggpdhkpmkldaa
/- THE CELL 'sum', in the pinned program and in every row, IS THE sha256 OF THE DUMP (.gsa) THAT YteggpdhkpmkldaaProg.lean LOADS. Nothing in Lean hashes anything: it is a label: what it is worth is what the hold of that sum in a sandbox is worth. -/
noncomputable def Try.pinned : Pinned := { name := "yteggpdhkpmkldaa", sum := "db0160f4da239ff2ac6dff3ae89a3ce6a6e809063fd1eb0d50b2a09bfa4380b7", checked := Try.checked }
namespace Rows
def none {H : Type} : Left H := { results := [], args := [] }

/-- 'spigotlaw19.SeenPlays': WHATEVER THE INPUT: true; the input reads as it did. -/
def seenPlaysSpec : ChangeSpec := { name := "seenPlays", fn := fun _ => fun
  | [d1, d2] => { results := [.lit (.bool true)], args := [d1, d2] }
  | _ => none }
def seenPlaysRow : OpenClaim := { program := "yteggpdhkpmkldaa", sum := "db0160f4da239ff2ac6dff3ae89a3ce6a6e809063fd1eb0d50b2a09bfa4380b7", func := "spigot/spigotlaw19.SeenPlays", spec := "seenPlays", apart := false }
def SeenPlaysSaid : Prop := seenPlaysRow.holds Try.pinned (OpenSpec.ofChange seenPlaysSpec)

/-- ITS FALSE NEIGHBOUR: 'it returns false'. Refute it at one input. -/
def seenPlaysWrong : ChangeSpec := { name := "seenPlays", fn := fun _ => fun
  | [d1, d2] => { results := [.lit (.bool false)], args := [d1, d2] }
  | _ => none }
def SeenPlaysWrongFalsely : Prop := seenPlaysRow.holds Try.pinned (OpenSpec.ofChange seenPlaysWrong)

/-- 'spigotlaw19.SeenNone': WHATEVER THE INPUT: true; the input reads as it did. -/
def seenNoneSpec : ChangeSpec := { name := "seenNone", fn := fun _ => fun
  | [d] => { results := [.lit (.bool true)], args := [d] }
  | _ => none }
def seenNoneRow : OpenClaim := { program := "yteggpdhkpmkldaa", sum := "db0160f4da239ff2ac6dff3ae89a3ce6a6e809063fd1eb0d50b2a09bfa4380b7", func := "spigot/spigotlaw19.SeenNone", spec := "seenNone", apart := false }
def SeenNoneSaid : Prop := seenNoneRow.holds Try.pinned (OpenSpec.ofChange seenNoneSpec)

/-- ITS FALSE NEIGHBOUR: 'it returns false'. Refute it at one input. -/
def seenNoneWrong : ChangeSpec := { name := "seenNone", fn := fun _ => fun
  | [d] => { results := [.lit (.bool false)], args := [d] }
  | _ => none }
def SeenNoneWrongFalsely : Prop := seenNoneRow.holds Try.pinned (OpenSpec.ofChange seenNoneWrong)

/-- 'spigotlaw19.SeenKeeps': WHATEVER THE INPUT: true; the input reads as it did. -/
def seenKeepsSpec : ChangeSpec := { name := "seenKeeps", fn := fun _ => fun
  | [d1, d2, d3] => { results := [.lit (.bool true)], args := [d1, d2, d3] }
  | _ => none }
def seenKeepsRow : OpenClaim := { program := "yteggpdhkpmkldaa", sum := "db0160f4da239ff2ac6dff3ae89a3ce6a6e809063fd1eb0d50b2a09bfa4380b7", func := "spigot/spigotlaw19.SeenKeeps", spec := "seenKeeps", apart := false }
def SeenKeepsSaid : Prop := seenKeepsRow.holds Try.pinned (OpenSpec.ofChange seenKeepsSpec)

/-- ITS FALSE NEIGHBOUR: 'it returns false'. Refute it at one input. -/
def seenKeepsWrong : ChangeSpec := { name := "seenKeeps", fn := fun _ => fun
  | [d1, d2, d3] => { results := [.lit (.bool false)], args := [d1, d2, d3] }
  | _ => none }
def SeenKeepsWrongFalsely : Prop := seenKeepsRow.holds Try.pinned (OpenSpec.ofChange seenKeepsWrong)

/-- 'spigotlaw17.RiskRefused': WHATEVER THE INPUT: true; the input reads as it did. -/
def riskRefusedSpec : ChangeSpec := { name := "riskRefused", fn := fun _ => fun
  | [d1, d2, d3] => { results := [.lit (.bool true)], args := [d1, d2, d3] }
  | _ => none }
def riskRefusedRow : OpenClaim := { program := "yteggpdhkpmkldaa", sum := "db0160f4da239ff2ac6dff3ae89a3ce6a6e809063fd1eb0d50b2a09bfa4380b7", func := "spigot/spigotlaw17.RiskRefused", spec := "riskRefused", apart := false }
def RiskRefusedSaid : Prop := riskRefusedRow.holds Try.pinned (OpenSpec.ofChange riskRefusedSpec)

/-- ITS FALSE NEIGHBOUR: 'it returns false'. Refute it at one input. -/
def riskRefusedWrong : ChangeSpec := { name := "riskRefused", fn := fun _ => fun
  | [d1, d2, d3] => { results := [.lit (.bool false)], args := [d1, d2, d3] }
  | _ => none }
def RiskRefusedWrongFalsely : Prop := riskRefusedRow.holds Try.pinned (OpenSpec.ofChange riskRefusedWrong)

/-- 'spigotlaw17.RiskPlays': WHATEVER THE INPUT: true; the input reads as it did. -/
def riskPlaysSpec : ChangeSpec := { name := "riskPlays", fn := fun _ => fun
  | [d1, d2, d3] => { results := [.lit (.bool true)], args := [d1, d2, d3] }
  | _ => none }
def riskPlaysRow : OpenClaim := { program := "yteggpdhkpmkldaa", sum := "db0160f4da239ff2ac6dff3ae89a3ce6a6e809063fd1eb0d50b2a09bfa4380b7", func := "spigot/spigotlaw17.RiskPlays", spec := "riskPlays", apart := false }
def RiskPlaysSaid : Prop := riskPlaysRow.holds Try.pinned (OpenSpec.ofChange riskPlaysSpec)

/-- ITS FALSE NEIGHBOUR: 'it returns false'. Refute it at one input. -/
def riskPlaysWrong : ChangeSpec := { name := "riskPlays", fn := fun _ => fun
  | [d1, d2, d3] => { results := [.lit (.bool false)], args := [d1, d2, d3] }
  | _ => none }
def RiskPlaysWrongFalsely : Prop := riskPlaysRow.holds Try.pinned (OpenSpec.ofChange riskPlaysWrong)

/-- 'spigotlaw17.RiskNone': WHATEVER THE INPUT: true; the input reads as it did. -/
def riskNoneSpec : ChangeSpec := { name := "riskNone", fn := fun _ => fun
  | [d] => { results := [.lit (.bool true)], args := [d] }
  | _ => none }
def riskNoneRow : OpenClaim := { program := "yteggpdhkpmkldaa", sum := "db0160f4da239ff2ac6dff3ae89a3ce6a6e809063fd1eb0d50b2a09bfa4380b7", func := "spigot/spigotlaw17.RiskNone", spec := "riskNone", apart := false }
def RiskNoneSaid : Prop := riskNoneRow.holds Try.pinned (OpenSpec.ofChange riskNoneSpec)

/-- ITS FALSE NEIGHBOUR: 'it returns false'. Refute it at one input. -/
def riskNoneWrong : ChangeSpec := { name := "riskNone", fn := fun _ => fun
  | [d] => { results := [.lit (.bool false)], args := [d] }
  | _ => none }
def RiskNoneWrongFalsely : Prop := riskNoneRow.holds Try.pinned (OpenSpec.ofChange riskNoneWrong)

/-- 'spigotlaw17.RiskBounds': WHATEVER THE INPUT: true; the input reads as it did. -/
def riskBoundsSpec : ChangeSpec := { name := "riskBounds", fn := fun _ => fun
  | [d1, d2, d3] => { results := [.lit (.bool true)], args := [d1, d2, d3] }
  | _ => none }
def riskBoundsRow : OpenClaim := { program := "yteggpdhkpmkldaa", sum := "db0160f4da239ff2ac6dff3ae89a3ce6a6e809063fd1eb0d50b2a09bfa4380b7", func := "spigot/spigotlaw17.RiskBounds", spec := "riskBounds", apart := false }
def RiskBoundsSaid : Prop := riskBoundsRow.holds Try.pinned (OpenSpec.ofChange riskBoundsSpec)

/-- ITS FALSE NEIGHBOUR: 'it returns false'. Refute it at one input. -/
def riskBoundsWrong : ChangeSpec := { name := "riskBounds", fn := fun _ => fun
  | [d1, d2, d3] => { results := [.lit (.bool false)], args := [d1, d2, d3] }
  | _ => none }
def RiskBoundsWrongFalsely : Prop := riskBoundsRow.holds Try.pinned (OpenSpec.ofChange riskBoundsWrong)

/-- 'spigotlaw22.SessionRows': WHATEVER THE INPUT: true; the input reads as it did. -/
def sessionRowsSpec : ChangeSpec := { name := "sessionRows", fn := fun _ => fun
  | [d1, d2] => { results := [.lit (.bool true)], args := [d1, d2] }
  | _ => none }
def sessionRowsRow : OpenClaim := { program := "yteggpdhkpmkldaa", sum := "db0160f4da239ff2ac6dff3ae89a3ce6a6e809063fd1eb0d50b2a09bfa4380b7", func := "spigot/spigotlaw22.SessionRows", spec := "sessionRows", apart := false }
def SessionRowsSaid : Prop := sessionRowsRow.holds Try.pinned (OpenSpec.ofChange sessionRowsSpec)

/-- ITS FALSE NEIGHBOUR: 'it returns false'. Refute it at one input. -/
def sessionRowsWrong : ChangeSpec := { name := "sessionRows", fn := fun _ => fun
  | [d1, d2] => { results := [.lit (.bool false)], args := [d1, d2] }
  | _ => none }
def SessionRowsWrongFalsely : Prop := sessionRowsRow.holds Try.pinned (OpenSpec.ofChange sessionRowsWrong)

/-- 'spigotlaw22.SessionPlays': WHATEVER THE INPUT: true; the input reads as it did. -/
def sessionPlaysSpec : ChangeSpec := { name := "sessionPlays", fn := fun _ => fun
  | [d1, d2] => { results := [.lit (.bool true)], args := [d1, d2] }
  | _ => none }
def sessionPlaysRow : OpenClaim := { program := "yteggpdhkpmkldaa", sum := "db0160f4da239ff2ac6dff3ae89a3ce6a6e809063fd1eb0d50b2a09bfa4380b7", func := "spigot/spigotlaw22.SessionPlays", spec := "sessionPlays", apart := false }
def SessionPlaysSaid : Prop := sessionPlaysRow.holds Try.pinned (OpenSpec.ofChange sessionPlaysSpec)

/-- ITS FALSE NEIGHBOUR: 'it returns false'. Refute it at one input. -/
def sessionPlaysWrong : ChangeSpec := { name := "sessionPlays", fn := fun _ => fun
  | [d1, d2] => { results := [.lit (.bool false)], args := [d1, d2] }
  | _ => none }
def SessionPlaysWrongFalsely : Prop := sessionPlaysRow.holds Try.pinned (OpenSpec.ofChange sessionPlaysWrong)

/-- 'spigotlaw22.SessionNone': WHATEVER THE INPUT: true; the input reads as it did. -/
def sessionNoneSpec : ChangeSpec := { name := "sessionNone", fn := fun _ => fun
  | [d] => { results := [.lit (.bool true)], args := [d] }
  | _ => none }
def sessionNoneRow : OpenClaim := { program := "yteggpdhkpmkldaa", sum := "db0160f4da239ff2ac6dff3ae89a3ce6a6e809063fd1eb0d50b2a09bfa4380b7", func := "spigot/spigotlaw22.SessionNone", spec := "sessionNone", apart := false }
def SessionNoneSaid : Prop := sessionNoneRow.holds Try.pinned (OpenSpec.ofChange sessionNoneSpec)

/-- ITS FALSE NEIGHBOUR: 'it returns false'. Refute it at one input. -/
def sessionNoneWrong : ChangeSpec := { name := "sessionNone", fn := fun _ => fun
  | [d] => { results := [.lit (.bool false)], args := [d] }
  | _ => none }
def SessionNoneWrongFalsely : Prop := sessionNoneRow.holds Try.pinned (OpenSpec.ofChange sessionNoneWrong)

/- THE SECOND FORM. 'bulk': how many values and letters a reading holds, each counted each time it is reached (what is shared counts as often as it is met; a slice's spare places count too). A statement '..UptoSaid' is the law's where the arguments, and the package variables that the reading takes, are together of bulk at most 1048576: NARROWER than '..Said'. Prove '..Said' where nothing that the law and all that it calls make is longer than what came in: it says more and counts as full. Else prove '..UptoSaid'. A law counts once. -/
mutual
def uptoBulk {H : Type} : DataW H → Nat
  | .lit (.string bytes) => bytes.length + 1
  | .lit _ => 1
  | .nil => 1
  | .ptr d => uptoBulk d + 1
  | .slice elems spare => uptoBulkAll elems + uptoBulkAll spare + 1
  | .agg parts => uptoBulkAll parts + 1
  | .iface _ d => uptoBulk d + 1
  | .map entries => uptoBulkEntries entries + 1
  | .held _ => 1
def uptoBulkAll {H : Type} : List (DataW H) → Nat
  | [] => 0
  | d :: r => uptoBulk d + uptoBulkAll r
def uptoBulkEntries {H : Type} : List (Lit × DataW H) → Nat
  | [] => 0
  | x :: r => uptoBulkEntry x + uptoBulkEntries r
def uptoBulkEntry {H : Type} : Lit × DataW H → Nat
  | (.string bytes, d) => bytes.length + uptoBulk d + 1
  | (_, d) => uptoBulk d + 1
 end
def uptoSmall : (H : Type) → List (DataW H) → Bool := fun _ ds => decide (uptoBulkAll ds ≤ 1048576)
def OpenSpec.upto (s : _root_.Go.ChangeSpec) : _root_.Go.OpenSpec := { _root_.Go.OpenSpec.ofChange s with cond := some uptoSmall }

/-- 'spigotlaw19.SeenPlays', WHERE WHAT IT READS IS OF BULK AT MOST 1048576: true; the input reads as it did. -/
def seenPlaysUptoRow : OpenClaim := { program := "yteggpdhkpmkldaa", sum := "db0160f4da239ff2ac6dff3ae89a3ce6a6e809063fd1eb0d50b2a09bfa4380b7", func := "spigot/spigotlaw19.SeenPlays", spec := "seenPlays", apart := false, narrowed := true }
def SeenPlaysUptoSaid : Prop := seenPlaysUptoRow.holds Try.pinned (OpenSpec.upto seenPlaysSpec)

/-- 'spigotlaw19.SeenNone', WHERE WHAT IT READS IS OF BULK AT MOST 1048576: true; the input reads as it did. -/
def seenNoneUptoRow : OpenClaim := { program := "yteggpdhkpmkldaa", sum := "db0160f4da239ff2ac6dff3ae89a3ce6a6e809063fd1eb0d50b2a09bfa4380b7", func := "spigot/spigotlaw19.SeenNone", spec := "seenNone", apart := false, narrowed := true }
def SeenNoneUptoSaid : Prop := seenNoneUptoRow.holds Try.pinned (OpenSpec.upto seenNoneSpec)

/-- 'spigotlaw19.SeenKeeps', WHERE WHAT IT READS IS OF BULK AT MOST 1048576: true; the input reads as it did. -/
def seenKeepsUptoRow : OpenClaim := { program := "yteggpdhkpmkldaa", sum := "db0160f4da239ff2ac6dff3ae89a3ce6a6e809063fd1eb0d50b2a09bfa4380b7", func := "spigot/spigotlaw19.SeenKeeps", spec := "seenKeeps", apart := false, narrowed := true }
def SeenKeepsUptoSaid : Prop := seenKeepsUptoRow.holds Try.pinned (OpenSpec.upto seenKeepsSpec)

/-- 'spigotlaw17.RiskRefused', WHERE WHAT IT READS IS OF BULK AT MOST 1048576: true; the input reads as it did. -/
def riskRefusedUptoRow : OpenClaim := { program := "yteggpdhkpmkldaa", sum := "db0160f4da239ff2ac6dff3ae89a3ce6a6e809063fd1eb0d50b2a09bfa4380b7", func := "spigot/spigotlaw17.RiskRefused", spec := "riskRefused", apart := false, narrowed := true }
def RiskRefusedUptoSaid : Prop := riskRefusedUptoRow.holds Try.pinned (OpenSpec.upto riskRefusedSpec)

/-- 'spigotlaw17.RiskPlays', WHERE WHAT IT READS IS OF BULK AT MOST 1048576: true; the input reads as it did. -/
def riskPlaysUptoRow : OpenClaim := { program := "yteggpdhkpmkldaa", sum := "db0160f4da239ff2ac6dff3ae89a3ce6a6e809063fd1eb0d50b2a09bfa4380b7", func := "spigot/spigotlaw17.RiskPlays", spec := "riskPlays", apart := false, narrowed := true }
def RiskPlaysUptoSaid : Prop := riskPlaysUptoRow.holds Try.pinned (OpenSpec.upto riskPlaysSpec)

/-- 'spigotlaw17.RiskNone', WHERE WHAT IT READS IS OF BULK AT MOST 1048576: true; the input reads as it did. -/
def riskNoneUptoRow : OpenClaim := { program := "yteggpdhkpmkldaa", sum := "db0160f4da239ff2ac6dff3ae89a3ce6a6e809063fd1eb0d50b2a09bfa4380b7", func := "spigot/spigotlaw17.RiskNone", spec := "riskNone", apart := false, narrowed := true }
def RiskNoneUptoSaid : Prop := riskNoneUptoRow.holds Try.pinned (OpenSpec.upto riskNoneSpec)

/-- 'spigotlaw17.RiskBounds', WHERE WHAT IT READS IS OF BULK AT MOST 1048576: true; the input reads as it did. -/
def riskBoundsUptoRow : OpenClaim := { program := "yteggpdhkpmkldaa", sum := "db0160f4da239ff2ac6dff3ae89a3ce6a6e809063fd1eb0d50b2a09bfa4380b7", func := "spigot/spigotlaw17.RiskBounds", spec := "riskBounds", apart := false, narrowed := true }
def RiskBoundsUptoSaid : Prop := riskBoundsUptoRow.holds Try.pinned (OpenSpec.upto riskBoundsSpec)

/-- 'spigotlaw22.SessionRows', WHERE WHAT IT READS IS OF BULK AT MOST 1048576: true; the input reads as it did. -/
def sessionRowsUptoRow : OpenClaim := { program := "yteggpdhkpmkldaa", sum := "db0160f4da239ff2ac6dff3ae89a3ce6a6e809063fd1eb0d50b2a09bfa4380b7", func := "spigot/spigotlaw22.SessionRows", spec := "sessionRows", apart := false, narrowed := true }
def SessionRowsUptoSaid : Prop := sessionRowsUptoRow.holds Try.pinned (OpenSpec.upto sessionRowsSpec)

/-- 'spigotlaw22.SessionPlays', WHERE WHAT IT READS IS OF BULK AT MOST 1048576: true; the input reads as it did. -/
def sessionPlaysUptoRow : OpenClaim := { program := "yteggpdhkpmkldaa", sum := "db0160f4da239ff2ac6dff3ae89a3ce6a6e809063fd1eb0d50b2a09bfa4380b7", func := "spigot/spigotlaw22.SessionPlays", spec := "sessionPlays", apart := false, narrowed := true }
def SessionPlaysUptoSaid : Prop := sessionPlaysUptoRow.holds Try.pinned (OpenSpec.upto sessionPlaysSpec)

/-- 'spigotlaw22.SessionNone', WHERE WHAT IT READS IS OF BULK AT MOST 1048576: true; the input reads as it did. -/
def sessionNoneUptoRow : OpenClaim := { program := "yteggpdhkpmkldaa", sum := "db0160f4da239ff2ac6dff3ae89a3ce6a6e809063fd1eb0d50b2a09bfa4380b7", func := "spigot/spigotlaw22.SessionNone", spec := "sessionNone", apart := false, narrowed := true }
def SessionNoneUptoSaid : Prop := sessionNoneUptoRow.holds Try.pinned (OpenSpec.upto sessionNoneSpec)

end Rows
end Go.Proofs.Yteggpdhkpmkldaa
