/-
  No cell of these rows narrows 'for every input' (looked for: loops, veiled, ifaces, maps, wideKeys, modest, calm, conditions, laid).
  DERIVED. THE GIVEN ROWS OF THIS SEAT. 12 by the template 'for every input the law returns true; each argument reads behind the call as it read before'; 0 by the template 'total and deterministic' (their statements: YtjhlaifflhjafaaTotals.lean).
  GIVEN WITH THE SEED: the statements are not yours to turn. If you find one false, say at which input.
  Laid BY PROGRAM, IN A SANDBOX (cutbox-rows.mjs): the forced cells as the released guide's own fill.sh prints them over the translation c8c5bc4b4fbb8e13… (all of the seat's roots in one cut). By AI agents, Wed Nov 11 2026. No macro, syntax, notation, axiom, sorry.
-/
import Derived.Test.YtjhlaifflhjafaaChecked
import GoSem.Claim
import GoSem.ClaimJoined
import GoSem.ClaimMapViews
import Derived.JoinedTies
import Derived.KernelRfl
namespace Go.Proofs.Ytjhlaifflhjafaa
/- THE CELL 'sum', in the pinned program and in every row, IS THE sha256 OF THE DUMP (.gsa) THAT YtjhlaifflhjafaaProg.lean LOADS. Nothing in Lean hashes anything: it is a label: what it is worth is what the hold of that sum in a sandbox is worth. -/
noncomputable def Try.pinned : Pinned := { name := "ytjhlaifflhjafaa", sum := "c8c5bc4b4fbb8e1350d889a1541ddf4f5a86df591ba6b1c7be32d3a812af08c7", checked := Try.checked }
namespace Rows
def none {H : Type} : Left H := { results := [], args := [] }

/-- 'spigotlaw04.RosterNames': WHATEVER THE INPUT: true; the input reads as it did. -/
def rosterNamesSpec : ChangeSpec := { name := "rosterNames", fn := fun _ => fun
  | [d] => { results := [.lit (.bool true)], args := [d] }
  | _ => none }
def rosterNamesRow : OpenClaim := { program := "ytjhlaifflhjafaa", sum := "c8c5bc4b4fbb8e1350d889a1541ddf4f5a86df591ba6b1c7be32d3a812af08c7", func := "spigot/spigotlaw04.RosterNames", spec := "rosterNames", inPlace := ["slices.overlaps[spigot/roster.seat]"], unfollowed := true, recurses := true, apart := false }
def RosterNamesSaid : Prop := rosterNamesRow.holds Try.pinned (OpenSpec.ofChange rosterNamesSpec)

/-- ITS FALSE NEIGHBOUR: 'it returns false'. Refute it at one input. -/
def rosterNamesWrong : ChangeSpec := { name := "rosterNames", fn := fun _ => fun
  | [d] => { results := [.lit (.bool false)], args := [d] }
  | _ => none }
def RosterNamesWrongFalsely : Prop := rosterNamesRow.holds Try.pinned (OpenSpec.ofChange rosterNamesWrong)

/-- 'spigotlaw21.ChildBounds': WHATEVER THE INPUT: true; the input reads as it did. -/
def childBoundsSpec : ChangeSpec := { name := "childBounds", fn := fun _ => fun
  | [d1, d2] => { results := [.lit (.bool true)], args := [d1, d2] }
  | _ => none }
def childBoundsRow : OpenClaim := { program := "ytjhlaifflhjafaa", sum := "c8c5bc4b4fbb8e1350d889a1541ddf4f5a86df591ba6b1c7be32d3a812af08c7", func := "spigot/spigotlaw21.ChildBounds", spec := "childBounds", apart := false }
def ChildBoundsSaid : Prop := childBoundsRow.holds Try.pinned (OpenSpec.ofChange childBoundsSpec)

/-- ITS FALSE NEIGHBOUR: 'it returns false'. Refute it at one input. -/
def childBoundsWrong : ChangeSpec := { name := "childBounds", fn := fun _ => fun
  | [d1, d2] => { results := [.lit (.bool false)], args := [d1, d2] }
  | _ => none }
def ChildBoundsWrongFalsely : Prop := childBoundsRow.holds Try.pinned (OpenSpec.ofChange childBoundsWrong)

/-- 'spigotlaw21.ChildNone': WHATEVER THE INPUT: true; the input reads as it did. -/
def childNoneSpec : ChangeSpec := { name := "childNone", fn := fun _ => fun
  | [d] => { results := [.lit (.bool true)], args := [d] }
  | _ => none }
def childNoneRow : OpenClaim := { program := "ytjhlaifflhjafaa", sum := "c8c5bc4b4fbb8e1350d889a1541ddf4f5a86df591ba6b1c7be32d3a812af08c7", func := "spigot/spigotlaw21.ChildNone", spec := "childNone", apart := false }
def ChildNoneSaid : Prop := childNoneRow.holds Try.pinned (OpenSpec.ofChange childNoneSpec)

/-- ITS FALSE NEIGHBOUR: 'it returns false'. Refute it at one input. -/
def childNoneWrong : ChangeSpec := { name := "childNone", fn := fun _ => fun
  | [d] => { results := [.lit (.bool false)], args := [d] }
  | _ => none }
def ChildNoneWrongFalsely : Prop := childNoneRow.holds Try.pinned (OpenSpec.ofChange childNoneWrong)

/-- 'spigotlaw04.RosterKeeps': WHATEVER THE INPUT: true; the input reads as it did. -/
def rosterKeepsSpec : ChangeSpec := { name := "rosterKeeps", fn := fun _ => fun
  | [d1, d2, d3] => { results := [.lit (.bool true)], args := [d1, d2, d3] }
  | _ => none }
def rosterKeepsRow : OpenClaim := { program := "ytjhlaifflhjafaa", sum := "c8c5bc4b4fbb8e1350d889a1541ddf4f5a86df591ba6b1c7be32d3a812af08c7", func := "spigot/spigotlaw04.RosterKeeps", spec := "rosterKeeps", inPlace := ["slices.overlaps[spigot/roster.seat]"], unfollowed := true, recurses := true, apart := false }
def RosterKeepsSaid : Prop := rosterKeepsRow.holds Try.pinned (OpenSpec.ofChange rosterKeepsSpec)

/-- ITS FALSE NEIGHBOUR: 'it returns false'. Refute it at one input. -/
def rosterKeepsWrong : ChangeSpec := { name := "rosterKeeps", fn := fun _ => fun
  | [d1, d2, d3] => { results := [.lit (.bool false)], args := [d1, d2, d3] }
  | _ => none }
def RosterKeepsWrongFalsely : Prop := rosterKeepsRow.holds Try.pinned (OpenSpec.ofChange rosterKeepsWrong)

/-- 'spigotlaw32.MatchFull': WHATEVER THE INPUT: true; the input reads as it did. -/
def matchFullSpec : ChangeSpec := { name := "matchFull", fn := fun _ => fun
  | [d] => { results := [.lit (.bool true)], args := [d] }
  | _ => none }
def matchFullRow : OpenClaim := { program := "ytjhlaifflhjafaa", sum := "c8c5bc4b4fbb8e1350d889a1541ddf4f5a86df591ba6b1c7be32d3a812af08c7", func := "spigot/spigotlaw32.MatchFull", spec := "matchFull", inPlace := ["slices.overlaps[spigot/match.order]"], unfollowed := true, recurses := true, apart := false }
def MatchFullSaid : Prop := matchFullRow.holds Try.pinned (OpenSpec.ofChange matchFullSpec)

/-- ITS FALSE NEIGHBOUR: 'it returns false'. Refute it at one input. -/
def matchFullWrong : ChangeSpec := { name := "matchFull", fn := fun _ => fun
  | [d] => { results := [.lit (.bool false)], args := [d] }
  | _ => none }
def MatchFullWrongFalsely : Prop := matchFullRow.holds Try.pinned (OpenSpec.ofChange matchFullWrong)

/-- 'spigotlaw04.RosterPlays': WHATEVER THE INPUT: true; the input reads as it did. -/
def rosterPlaysSpec : ChangeSpec := { name := "rosterPlays", fn := fun _ => fun
  | [d1, d2] => { results := [.lit (.bool true)], args := [d1, d2] }
  | _ => none }
def rosterPlaysRow : OpenClaim := { program := "ytjhlaifflhjafaa", sum := "c8c5bc4b4fbb8e1350d889a1541ddf4f5a86df591ba6b1c7be32d3a812af08c7", func := "spigot/spigotlaw04.RosterPlays", spec := "rosterPlays", inPlace := ["slices.overlaps[spigot/roster.seat]"], unfollowed := true, recurses := true, apart := false }
def RosterPlaysSaid : Prop := rosterPlaysRow.holds Try.pinned (OpenSpec.ofChange rosterPlaysSpec)

/-- ITS FALSE NEIGHBOUR: 'it returns false'. Refute it at one input. -/
def rosterPlaysWrong : ChangeSpec := { name := "rosterPlays", fn := fun _ => fun
  | [d1, d2] => { results := [.lit (.bool false)], args := [d1, d2] }
  | _ => none }
def RosterPlaysWrongFalsely : Prop := rosterPlaysRow.holds Try.pinned (OpenSpec.ofChange rosterPlaysWrong)

/-- 'spigotlaw04.RosterNone': WHATEVER THE INPUT: true; the input reads as it did. -/
def rosterNoneSpec : ChangeSpec := { name := "rosterNone", fn := fun _ => fun
  | [d1, d2] => { results := [.lit (.bool true)], args := [d1, d2] }
  | _ => none }
def rosterNoneRow : OpenClaim := { program := "ytjhlaifflhjafaa", sum := "c8c5bc4b4fbb8e1350d889a1541ddf4f5a86df591ba6b1c7be32d3a812af08c7", func := "spigot/spigotlaw04.RosterNone", spec := "rosterNone", inPlace := ["slices.overlaps[spigot/roster.seat]"], unfollowed := true, recurses := true, apart := false }
def RosterNoneSaid : Prop := rosterNoneRow.holds Try.pinned (OpenSpec.ofChange rosterNoneSpec)

/-- ITS FALSE NEIGHBOUR: 'it returns false'. Refute it at one input. -/
def rosterNoneWrong : ChangeSpec := { name := "rosterNone", fn := fun _ => fun
  | [d1, d2] => { results := [.lit (.bool false)], args := [d1, d2] }
  | _ => none }
def RosterNoneWrongFalsely : Prop := rosterNoneRow.holds Try.pinned (OpenSpec.ofChange rosterNoneWrong)

/-- 'spigotlaw04.RosterSorts': WHATEVER THE INPUT: true; the input reads as it did. -/
def rosterSortsSpec : ChangeSpec := { name := "rosterSorts", fn := fun _ => fun
  | [d1, d2] => { results := [.lit (.bool true)], args := [d1, d2] }
  | _ => none }
def rosterSortsRow : OpenClaim := { program := "ytjhlaifflhjafaa", sum := "c8c5bc4b4fbb8e1350d889a1541ddf4f5a86df591ba6b1c7be32d3a812af08c7", func := "spigot/spigotlaw04.RosterSorts", spec := "rosterSorts", inPlace := ["slices.overlaps[spigot/roster.seat]"], unfollowed := true, recurses := true, apart := false }
def RosterSortsSaid : Prop := rosterSortsRow.holds Try.pinned (OpenSpec.ofChange rosterSortsSpec)

/-- ITS FALSE NEIGHBOUR: 'it returns false'. Refute it at one input. -/
def rosterSortsWrong : ChangeSpec := { name := "rosterSorts", fn := fun _ => fun
  | [d1, d2] => { results := [.lit (.bool false)], args := [d1, d2] }
  | _ => none }
def RosterSortsWrongFalsely : Prop := rosterSortsRow.holds Try.pinned (OpenSpec.ofChange rosterSortsWrong)

/-- 'spigotlaw32.MatchPlays': WHATEVER THE INPUT: true; the input reads as it did. -/
def matchPlaysSpec : ChangeSpec := { name := "matchPlays", fn := fun _ => fun
  | [d] => { results := [.lit (.bool true)], args := [d] }
  | _ => none }
def matchPlaysRow : OpenClaim := { program := "ytjhlaifflhjafaa", sum := "c8c5bc4b4fbb8e1350d889a1541ddf4f5a86df591ba6b1c7be32d3a812af08c7", func := "spigot/spigotlaw32.MatchPlays", spec := "matchPlays", inPlace := ["slices.overlaps[spigot/match.order]"], unfollowed := true, recurses := true, apart := false }
def MatchPlaysSaid : Prop := matchPlaysRow.holds Try.pinned (OpenSpec.ofChange matchPlaysSpec)

/-- ITS FALSE NEIGHBOUR: 'it returns false'. Refute it at one input. -/
def matchPlaysWrong : ChangeSpec := { name := "matchPlays", fn := fun _ => fun
  | [d] => { results := [.lit (.bool false)], args := [d] }
  | _ => none }
def MatchPlaysWrongFalsely : Prop := matchPlaysRow.holds Try.pinned (OpenSpec.ofChange matchPlaysWrong)

/-- 'spigotlaw32.MatchNone': WHATEVER THE INPUT: true; the input reads as it did. -/
def matchNoneSpec : ChangeSpec := { name := "matchNone", fn := fun _ => fun
  | [d] => { results := [.lit (.bool true)], args := [d] }
  | _ => none }
def matchNoneRow : OpenClaim := { program := "ytjhlaifflhjafaa", sum := "c8c5bc4b4fbb8e1350d889a1541ddf4f5a86df591ba6b1c7be32d3a812af08c7", func := "spigot/spigotlaw32.MatchNone", spec := "matchNone", inPlace := ["slices.overlaps[spigot/match.order]"], unfollowed := true, recurses := true, apart := false }
def MatchNoneSaid : Prop := matchNoneRow.holds Try.pinned (OpenSpec.ofChange matchNoneSpec)

/-- ITS FALSE NEIGHBOUR: 'it returns false'. Refute it at one input. -/
def matchNoneWrong : ChangeSpec := { name := "matchNone", fn := fun _ => fun
  | [d] => { results := [.lit (.bool false)], args := [d] }
  | _ => none }
def MatchNoneWrongFalsely : Prop := matchNoneRow.holds Try.pinned (OpenSpec.ofChange matchNoneWrong)

/-- 'spigotlaw32.MatchUncrossed': WHATEVER THE INPUT: true; the input reads as it did. -/
def matchUncrossedSpec : ChangeSpec := { name := "matchUncrossed", fn := fun _ => fun
  | [d] => { results := [.lit (.bool true)], args := [d] }
  | _ => none }
def matchUncrossedRow : OpenClaim := { program := "ytjhlaifflhjafaa", sum := "c8c5bc4b4fbb8e1350d889a1541ddf4f5a86df591ba6b1c7be32d3a812af08c7", func := "spigot/spigotlaw32.MatchUncrossed", spec := "matchUncrossed", inPlace := ["slices.overlaps[spigot/match.order]"], unfollowed := true, recurses := true, apart := false }
def MatchUncrossedSaid : Prop := matchUncrossedRow.holds Try.pinned (OpenSpec.ofChange matchUncrossedSpec)

/-- ITS FALSE NEIGHBOUR: 'it returns false'. Refute it at one input. -/
def matchUncrossedWrong : ChangeSpec := { name := "matchUncrossed", fn := fun _ => fun
  | [d] => { results := [.lit (.bool false)], args := [d] }
  | _ => none }
def MatchUncrossedWrongFalsely : Prop := matchUncrossedRow.holds Try.pinned (OpenSpec.ofChange matchUncrossedWrong)

/-- 'spigotlaw32.MatchKeeps': WHATEVER THE INPUT: true; the input reads as it did. -/
def matchKeepsSpec : ChangeSpec := { name := "matchKeeps", fn := fun _ => fun
  | [d] => { results := [.lit (.bool true)], args := [d] }
  | _ => none }
def matchKeepsRow : OpenClaim := { program := "ytjhlaifflhjafaa", sum := "c8c5bc4b4fbb8e1350d889a1541ddf4f5a86df591ba6b1c7be32d3a812af08c7", func := "spigot/spigotlaw32.MatchKeeps", spec := "matchKeeps", inPlace := ["slices.overlaps[spigot/match.order]"], unfollowed := true, recurses := true, apart := false }
def MatchKeepsSaid : Prop := matchKeepsRow.holds Try.pinned (OpenSpec.ofChange matchKeepsSpec)

/-- ITS FALSE NEIGHBOUR: 'it returns false'. Refute it at one input. -/
def matchKeepsWrong : ChangeSpec := { name := "matchKeeps", fn := fun _ => fun
  | [d] => { results := [.lit (.bool false)], args := [d] }
  | _ => none }
def MatchKeepsWrongFalsely : Prop := matchKeepsRow.holds Try.pinned (OpenSpec.ofChange matchKeepsWrong)

/- THE SECOND FORM. 'bulk': how many values and letters a reading holds, each counted each time it is reached (what is shared counts as often as it is met; a slice's spare places count too). A statement '..UptoSaid' is the law's where the arguments, and the package variables that the reading takes, are together of bulk at most 1048576: NARROWER than '..Said'. Prove '..Said' where nothing that the law and all that it calls make is longer than what came in: it says more and counts as full. Else prove '..UptoSaid'. A law counts once. -/
mutual
def uptoBulk {H : Type} : DataW H → Nat
  | .lit (.string bytes) => bytes.length + 1
  | .lit _ => 1
  | .nil => 1
  | .ptr d => uptoBulk d + 1
  | .slice elems spare => uptoBulkAll elems + uptoBulkAll spare + 1
  | .agg parts => uptoBulkAll parts + 1
  | .iface _ d => uptoBulk d + 1
  | .map entries => uptoBulkEntries entries + 1
  | .held _ => 1
def uptoBulkAll {H : Type} : List (DataW H) → Nat
  | [] => 0
  | d :: r => uptoBulk d + uptoBulkAll r
def uptoBulkEntries {H : Type} : List (Lit × DataW H) → Nat
  | [] => 0
  | x :: r => uptoBulkEntry x + uptoBulkEntries r
def uptoBulkEntry {H : Type} : Lit × DataW H → Nat
  | (.string bytes, d) => bytes.length + uptoBulk d + 1
  | (_, d) => uptoBulk d + 1
 end
def uptoSmall : (H : Type) → List (DataW H) → Bool := fun _ ds => decide (uptoBulkAll ds ≤ 1048576)
def OpenSpec.upto (s : _root_.Go.ChangeSpec) : _root_.Go.OpenSpec := { _root_.Go.OpenSpec.ofChange s with cond := some uptoSmall }

/-- 'spigotlaw04.RosterNames', WHERE WHAT IT READS IS OF BULK AT MOST 1048576: true; the input reads as it did. -/
def rosterNamesUptoRow : OpenClaim := { program := "ytjhlaifflhjafaa", sum := "c8c5bc4b4fbb8e1350d889a1541ddf4f5a86df591ba6b1c7be32d3a812af08c7", func := "spigot/spigotlaw04.RosterNames", spec := "rosterNames", inPlace := ["slices.overlaps[spigot/roster.seat]"], unfollowed := true, recurses := true, apart := false, narrowed := true }
def RosterNamesUptoSaid : Prop := rosterNamesUptoRow.holds Try.pinned (OpenSpec.upto rosterNamesSpec)

/-- 'spigotlaw21.ChildBounds', WHERE WHAT IT READS IS OF BULK AT MOST 1048576: true; the input reads as it did. -/
def childBoundsUptoRow : OpenClaim := { program := "ytjhlaifflhjafaa", sum := "c8c5bc4b4fbb8e1350d889a1541ddf4f5a86df591ba6b1c7be32d3a812af08c7", func := "spigot/spigotlaw21.ChildBounds", spec := "childBounds", apart := false, narrowed := true }
def ChildBoundsUptoSaid : Prop := childBoundsUptoRow.holds Try.pinned (OpenSpec.upto childBoundsSpec)

/-- 'spigotlaw21.ChildNone', WHERE WHAT IT READS IS OF BULK AT MOST 1048576: true; the input reads as it did. -/
def childNoneUptoRow : OpenClaim := { program := "ytjhlaifflhjafaa", sum := "c8c5bc4b4fbb8e1350d889a1541ddf4f5a86df591ba6b1c7be32d3a812af08c7", func := "spigot/spigotlaw21.ChildNone", spec := "childNone", apart := false, narrowed := true }
def ChildNoneUptoSaid : Prop := childNoneUptoRow.holds Try.pinned (OpenSpec.upto childNoneSpec)

/-- 'spigotlaw04.RosterKeeps', WHERE WHAT IT READS IS OF BULK AT MOST 1048576: true; the input reads as it did. -/
def rosterKeepsUptoRow : OpenClaim := { program := "ytjhlaifflhjafaa", sum := "c8c5bc4b4fbb8e1350d889a1541ddf4f5a86df591ba6b1c7be32d3a812af08c7", func := "spigot/spigotlaw04.RosterKeeps", spec := "rosterKeeps", inPlace := ["slices.overlaps[spigot/roster.seat]"], unfollowed := true, recurses := true, apart := false, narrowed := true }
def RosterKeepsUptoSaid : Prop := rosterKeepsUptoRow.holds Try.pinned (OpenSpec.upto rosterKeepsSpec)

/-- 'spigotlaw32.MatchFull', WHERE WHAT IT READS IS OF BULK AT MOST 1048576: true; the input reads as it did. -/
def matchFullUptoRow : OpenClaim := { program := "ytjhlaifflhjafaa", sum := "c8c5bc4b4fbb8e1350d889a1541ddf4f5a86df591ba6b1c7be32d3a812af08c7", func := "spigot/spigotlaw32.MatchFull", spec := "matchFull", inPlace := ["slices.overlaps[spigot/match.order]"], unfollowed := true, recurses := true, apart := false, narrowed := true }
def MatchFullUptoSaid : Prop := matchFullUptoRow.holds Try.pinned (OpenSpec.upto matchFullSpec)

/-- 'spigotlaw04.RosterPlays', WHERE WHAT IT READS IS OF BULK AT MOST 1048576: true; the input reads as it did. -/
def rosterPlaysUptoRow : OpenClaim := { program := "ytjhlaifflhjafaa", sum := "c8c5bc4b4fbb8e1350d889a1541ddf4f5a86df591ba6b1c7be32d3a812af08c7", func := "spigot/spigotlaw04.RosterPlays", spec := "rosterPlays", inPlace := ["slices.overlaps[spigot/roster.seat]"], unfollowed := true, recurses := true, apart := false, narrowed := true }
def RosterPlaysUptoSaid : Prop := rosterPlaysUptoRow.holds Try.pinned (OpenSpec.upto rosterPlaysSpec)

/-- 'spigotlaw04.RosterNone', WHERE WHAT IT READS IS OF BULK AT MOST 1048576: true; the input reads as it did. -/
def rosterNoneUptoRow : OpenClaim := { program := "ytjhlaifflhjafaa", sum := "c8c5bc4b4fbb8e1350d889a1541ddf4f5a86df591ba6b1c7be32d3a812af08c7", func := "spigot/spigotlaw04.RosterNone", spec := "rosterNone", inPlace := ["slices.overlaps[spigot/roster.seat]"], unfollowed := true, recurses := true, apart := false, narrowed := true }
def RosterNoneUptoSaid : Prop := rosterNoneUptoRow.holds Try.pinned (OpenSpec.upto rosterNoneSpec)

/-- 'spigotlaw04.RosterSorts', WHERE WHAT IT READS IS OF BULK AT MOST 1048576: true; the input reads as it did. -/
def rosterSortsUptoRow : OpenClaim := { program := "ytjhlaifflhjafaa", sum := "c8c5bc4b4fbb8e1350d889a1541ddf4f5a86df591ba6b1c7be32d3a812af08c7", func := "spigot/spigotlaw04.RosterSorts", spec := "rosterSorts", inPlace := ["slices.overlaps[spigot/roster.seat]"], unfollowed := true, recurses := true, apart := false, narrowed := true }
def RosterSortsUptoSaid : Prop := rosterSortsUptoRow.holds Try.pinned (OpenSpec.upto rosterSortsSpec)

/-- 'spigotlaw32.MatchPlays', WHERE WHAT IT READS IS OF BULK AT MOST 1048576: true; the input reads as it did. -/
def matchPlaysUptoRow : OpenClaim := { program := "ytjhlaifflhjafaa", sum := "c8c5bc4b4fbb8e1350d889a1541ddf4f5a86df591ba6b1c7be32d3a812af08c7", func := "spigot/spigotlaw32.MatchPlays", spec := "matchPlays", inPlace := ["slices.overlaps[spigot/match.order]"], unfollowed := true, recurses := true, apart := false, narrowed := true }
def MatchPlaysUptoSaid : Prop := matchPlaysUptoRow.holds Try.pinned (OpenSpec.upto matchPlaysSpec)

/-- 'spigotlaw32.MatchNone', WHERE WHAT IT READS IS OF BULK AT MOST 1048576: true; the input reads as it did. -/
def matchNoneUptoRow : OpenClaim := { program := "ytjhlaifflhjafaa", sum := "c8c5bc4b4fbb8e1350d889a1541ddf4f5a86df591ba6b1c7be32d3a812af08c7", func := "spigot/spigotlaw32.MatchNone", spec := "matchNone", inPlace := ["slices.overlaps[spigot/match.order]"], unfollowed := true, recurses := true, apart := false, narrowed := true }
def MatchNoneUptoSaid : Prop := matchNoneUptoRow.holds Try.pinned (OpenSpec.upto matchNoneSpec)

/-- 'spigotlaw32.MatchUncrossed', WHERE WHAT IT READS IS OF BULK AT MOST 1048576: true; the input reads as it did. -/
def matchUncrossedUptoRow : OpenClaim := { program := "ytjhlaifflhjafaa", sum := "c8c5bc4b4fbb8e1350d889a1541ddf4f5a86df591ba6b1c7be32d3a812af08c7", func := "spigot/spigotlaw32.MatchUncrossed", spec := "matchUncrossed", inPlace := ["slices.overlaps[spigot/match.order]"], unfollowed := true, recurses := true, apart := false, narrowed := true }
def MatchUncrossedUptoSaid : Prop := matchUncrossedUptoRow.holds Try.pinned (OpenSpec.upto matchUncrossedSpec)

/-- 'spigotlaw32.MatchKeeps', WHERE WHAT IT READS IS OF BULK AT MOST 1048576: true; the input reads as it did. -/
def matchKeepsUptoRow : OpenClaim := { program := "ytjhlaifflhjafaa", sum := "c8c5bc4b4fbb8e1350d889a1541ddf4f5a86df591ba6b1c7be32d3a812af08c7", func := "spigot/spigotlaw32.MatchKeeps", spec := "matchKeeps", inPlace := ["slices.overlaps[spigot/match.order]"], unfollowed := true, recurses := true, apart := false, narrowed := true }
def MatchKeepsUptoSaid : Prop := matchKeepsUptoRow.holds Try.pinned (OpenSpec.upto matchKeepsSpec)

end Rows
end Go.Proofs.Ytjhlaifflhjafaa
