/-
  No cell of these rows narrows 'for every input' (looked for: loops, veiled, ifaces, maps, wideKeys, modest, calm, conditions, laid).
  DERIVED. THE GIVEN ROWS OF THIS SEAT. 8 by the template 'for every input the law returns true; each argument reads behind the call as it read before'; 0 by the template 'total and deterministic' (their statements: YtnlnpfpfggbheaaTotals.lean).
  GIVEN WITH THE SEED: the statements are not yours to turn. If you find one false, say at which input.
  Laid BY PROGRAM, IN A SANDBOX (cutbox-rows.mjs): the forced cells as the released guide's own fill.sh prints them over the translation 37d1fde236db452e… (all of the seat's roots in one cut). By AI agents, Wed Nov 11 2026. No macro, syntax, notation, axiom, sorry.
-/
import Derived.Test.YtnlnpfpfggbheaaChecked
import GoSem.Claim
import GoSem.ClaimJoined
import GoSem.ClaimMapViews
import Derived.JoinedTies
import Derived.KernelRfl
namespace Go.Proofs.Ytnlnpfpfggbheaa
/- THE CELL 'sum', in the pinned program and in every row, IS THE sha256 OF THE DUMP (.gsa) THAT YtnlnpfpfggbheaaProg.lean LOADS. Nothing in Lean hashes anything: it is a label: what it is worth is what the hold of that sum in a sandbox is worth. -/
noncomputable def Try.pinned : Pinned := { name := "ytnlnpfpfggbheaa", sum := "37d1fde236db452ee4b891da1d1947d6bb2f7a7efb6a77ea4b3a81d49c1d90bd", checked := Try.checked }
namespace Rows
def none {H : Type} : Left H := { results := [], args := [] }

/-- 'tidepoollaw13.ScanWalks': WHATEVER THE INPUT: true; the input reads as it did. -/
def scanWalksSpec : ChangeSpec := { name := "scanWalks", fn := fun _ => fun
  | [d1, d2, d3, d4, d5, d6] => { results := [.lit (.bool true)], args := [d1, d2, d3, d4, d5, d6] }
  | _ => none }
def scanWalksRow : OpenClaim := { program := "ytnlnpfpfggbheaa", sum := "37d1fde236db452ee4b891da1d1947d6bb2f7a7efb6a77ea4b3a81d49c1d90bd", func := "tidepool/tidepoollaw13.ScanWalks", spec := "scanWalks", inPlace := ["slices.overlaps[string]", "slices.overlaps[int]", "slices.overlaps[tidepool/arena.Handle]"], unfollowed := true, recurses := true, apart := false }
def ScanWalksSaid : Prop := scanWalksRow.holds Try.pinned (OpenSpec.ofChange scanWalksSpec)

/-- ITS FALSE NEIGHBOUR: 'it returns false'. Refute it at one input. -/
def scanWalksWrong : ChangeSpec := { name := "scanWalks", fn := fun _ => fun
  | [d1, d2, d3, d4, d5, d6] => { results := [.lit (.bool false)], args := [d1, d2, d3, d4, d5, d6] }
  | _ => none }
def ScanWalksWrongFalsely : Prop := scanWalksRow.holds Try.pinned (OpenSpec.ofChange scanWalksWrong)

/-- 'tidepoollaw13.ScanPlays': WHATEVER THE INPUT: true; the input reads as it did. -/
def scanPlaysSpec : ChangeSpec := { name := "scanPlays", fn := fun _ => fun
  | [d1, d2, d3, d4, d5] => { results := [.lit (.bool true)], args := [d1, d2, d3, d4, d5] }
  | _ => none }
def scanPlaysRow : OpenClaim := { program := "ytnlnpfpfggbheaa", sum := "37d1fde236db452ee4b891da1d1947d6bb2f7a7efb6a77ea4b3a81d49c1d90bd", func := "tidepool/tidepoollaw13.ScanPlays", spec := "scanPlays", inPlace := ["slices.overlaps[string]", "slices.overlaps[int]", "slices.overlaps[tidepool/arena.Handle]"], unfollowed := true, recurses := true, apart := false }
def ScanPlaysSaid : Prop := scanPlaysRow.holds Try.pinned (OpenSpec.ofChange scanPlaysSpec)

/-- ITS FALSE NEIGHBOUR: 'it returns false'. Refute it at one input. -/
def scanPlaysWrong : ChangeSpec := { name := "scanPlays", fn := fun _ => fun
  | [d1, d2, d3, d4, d5] => { results := [.lit (.bool false)], args := [d1, d2, d3, d4, d5] }
  | _ => none }
def ScanPlaysWrongFalsely : Prop := scanPlaysRow.holds Try.pinned (OpenSpec.ofChange scanPlaysWrong)

/-- 'tidepoollaw13.ScanNone': WHATEVER THE INPUT: true; the input reads as it did. -/
def scanNoneSpec : ChangeSpec := { name := "scanNone", fn := fun _ => fun
  | [d1, d2, d3, d4] => { results := [.lit (.bool true)], args := [d1, d2, d3, d4] }
  | _ => none }
def scanNoneRow : OpenClaim := { program := "ytnlnpfpfggbheaa", sum := "37d1fde236db452ee4b891da1d1947d6bb2f7a7efb6a77ea4b3a81d49c1d90bd", func := "tidepool/tidepoollaw13.ScanNone", spec := "scanNone", inPlace := ["slices.overlaps[string]", "slices.overlaps[int]", "slices.overlaps[tidepool/arena.Handle]"], unfollowed := true, recurses := true, apart := false }
def ScanNoneSaid : Prop := scanNoneRow.holds Try.pinned (OpenSpec.ofChange scanNoneSpec)

/-- ITS FALSE NEIGHBOUR: 'it returns false'. Refute it at one input. -/
def scanNoneWrong : ChangeSpec := { name := "scanNone", fn := fun _ => fun
  | [d1, d2, d3, d4] => { results := [.lit (.bool false)], args := [d1, d2, d3, d4] }
  | _ => none }
def ScanNoneWrongFalsely : Prop := scanNoneRow.holds Try.pinned (OpenSpec.ofChange scanNoneWrong)

/-- 'tidepoollaw13.ScanKnown': WHATEVER THE INPUT: true; the input reads as it did. -/
def scanKnownSpec : ChangeSpec := { name := "scanKnown", fn := fun _ => fun
  | [] => { results := [.lit (.bool true)], args := [] }
  | _ => none }
def scanKnownRow : OpenClaim := { program := "ytnlnpfpfggbheaa", sum := "37d1fde236db452ee4b891da1d1947d6bb2f7a7efb6a77ea4b3a81d49c1d90bd", func := "tidepool/tidepoollaw13.ScanKnown", spec := "scanKnown", inPlace := ["slices.overlaps[string]", "slices.overlaps[int]", "slices.overlaps[tidepool/arena.Handle]"], unfollowed := true, recurses := true, apart := false }
def ScanKnownSaid : Prop := scanKnownRow.holds Try.pinned (OpenSpec.ofChange scanKnownSpec)

/-- ITS FALSE NEIGHBOUR: 'it returns false'. Refute it at one input. -/
def scanKnownWrong : ChangeSpec := { name := "scanKnown", fn := fun _ => fun
  | [] => { results := [.lit (.bool false)], args := [] }
  | _ => none }
def ScanKnownWrongFalsely : Prop := scanKnownRow.holds Try.pinned (OpenSpec.ofChange scanKnownWrong)

/-- 'tidepoollaw12.TreeStands': WHATEVER THE INPUT: true; the input reads as it did. -/
def treeStandsSpec : ChangeSpec := { name := "treeStands", fn := fun _ => fun
  | [d] => { results := [.lit (.bool true)], args := [d] }
  | _ => none }
def treeStandsRow : OpenClaim := { program := "ytnlnpfpfggbheaa", sum := "37d1fde236db452ee4b891da1d1947d6bb2f7a7efb6a77ea4b3a81d49c1d90bd", func := "tidepool/tidepoollaw12.TreeStands", spec := "treeStands", inPlace := ["slices.overlaps[string]", "slices.overlaps[int]", "slices.overlaps[tidepool/arena.Handle]"], unfollowed := true, recurses := true, apart := false }
def TreeStandsSaid : Prop := treeStandsRow.holds Try.pinned (OpenSpec.ofChange treeStandsSpec)

/-- ITS FALSE NEIGHBOUR: 'it returns false'. Refute it at one input. -/
def treeStandsWrong : ChangeSpec := { name := "treeStands", fn := fun _ => fun
  | [d] => { results := [.lit (.bool false)], args := [d] }
  | _ => none }
def TreeStandsWrongFalsely : Prop := treeStandsRow.holds Try.pinned (OpenSpec.ofChange treeStandsWrong)

/-- 'tidepoollaw12.TreeEmpties': WHATEVER THE INPUT: true; the input reads as it did. -/
def treeEmptiesSpec : ChangeSpec := { name := "treeEmpties", fn := fun _ => fun
  | [d1, d2] => { results := [.lit (.bool true)], args := [d1, d2] }
  | _ => none }
def treeEmptiesRow : OpenClaim := { program := "ytnlnpfpfggbheaa", sum := "37d1fde236db452ee4b891da1d1947d6bb2f7a7efb6a77ea4b3a81d49c1d90bd", func := "tidepool/tidepoollaw12.TreeEmpties", spec := "treeEmpties", inPlace := ["slices.overlaps[string]", "slices.overlaps[int]", "slices.overlaps[tidepool/arena.Handle]"], unfollowed := true, recurses := true, apart := false }
def TreeEmptiesSaid : Prop := treeEmptiesRow.holds Try.pinned (OpenSpec.ofChange treeEmptiesSpec)

/-- ITS FALSE NEIGHBOUR: 'it returns false'. Refute it at one input. -/
def treeEmptiesWrong : ChangeSpec := { name := "treeEmpties", fn := fun _ => fun
  | [d1, d2] => { results := [.lit (.bool false)], args := [d1, d2] }
  | _ => none }
def TreeEmptiesWrongFalsely : Prop := treeEmptiesRow.holds Try.pinned (OpenSpec.ofChange treeEmptiesWrong)

/-- 'tidepoollaw12.TreePlays': WHATEVER THE INPUT: true; the input reads as it did. -/
def treePlaysSpec : ChangeSpec := { name := "treePlays", fn := fun _ => fun
  | [d1, d2] => { results := [.lit (.bool true)], args := [d1, d2] }
  | _ => none }
def treePlaysRow : OpenClaim := { program := "ytnlnpfpfggbheaa", sum := "37d1fde236db452ee4b891da1d1947d6bb2f7a7efb6a77ea4b3a81d49c1d90bd", func := "tidepool/tidepoollaw12.TreePlays", spec := "treePlays", inPlace := ["slices.overlaps[string]", "slices.overlaps[int]", "slices.overlaps[tidepool/arena.Handle]"], unfollowed := true, recurses := true, apart := false }
def TreePlaysSaid : Prop := treePlaysRow.holds Try.pinned (OpenSpec.ofChange treePlaysSpec)

/-- ITS FALSE NEIGHBOUR: 'it returns false'. Refute it at one input. -/
def treePlaysWrong : ChangeSpec := { name := "treePlays", fn := fun _ => fun
  | [d1, d2] => { results := [.lit (.bool false)], args := [d1, d2] }
  | _ => none }
def TreePlaysWrongFalsely : Prop := treePlaysRow.holds Try.pinned (OpenSpec.ofChange treePlaysWrong)

/-- 'tidepoollaw12.TreeNone': WHATEVER THE INPUT: true; the input reads as it did. -/
def treeNoneSpec : ChangeSpec := { name := "treeNone", fn := fun _ => fun
  | [d1, d2] => { results := [.lit (.bool true)], args := [d1, d2] }
  | _ => none }
def treeNoneRow : OpenClaim := { program := "ytnlnpfpfggbheaa", sum := "37d1fde236db452ee4b891da1d1947d6bb2f7a7efb6a77ea4b3a81d49c1d90bd", func := "tidepool/tidepoollaw12.TreeNone", spec := "treeNone", inPlace := ["slices.overlaps[string]", "slices.overlaps[int]", "slices.overlaps[tidepool/arena.Handle]"], unfollowed := true, recurses := true, apart := false }
def TreeNoneSaid : Prop := treeNoneRow.holds Try.pinned (OpenSpec.ofChange treeNoneSpec)

/-- ITS FALSE NEIGHBOUR: 'it returns false'. Refute it at one input. -/
def treeNoneWrong : ChangeSpec := { name := "treeNone", fn := fun _ => fun
  | [d1, d2] => { results := [.lit (.bool false)], args := [d1, d2] }
  | _ => none }
def TreeNoneWrongFalsely : Prop := treeNoneRow.holds Try.pinned (OpenSpec.ofChange treeNoneWrong)

/- THE SECOND FORM. 'bulk': how many values and letters a reading holds, each counted each time it is reached (what is shared counts as often as it is met; a slice's spare places count too). A statement '..UptoSaid' is the law's where the arguments, and the package variables that the reading takes, are together of bulk at most 1048576: NARROWER than '..Said'. Prove '..Said' where nothing that the law and all that it calls make is longer than what came in: it says more and counts as full. Else prove '..UptoSaid'. A law counts once. -/
mutual
def uptoBulk {H : Type} : DataW H → Nat
  | .lit (.string bytes) => bytes.length + 1
  | .lit _ => 1
  | .nil => 1
  | .ptr d => uptoBulk d + 1
  | .slice elems spare => uptoBulkAll elems + uptoBulkAll spare + 1
  | .agg parts => uptoBulkAll parts + 1
  | .iface _ d => uptoBulk d + 1
  | .map entries => uptoBulkEntries entries + 1
  | .held _ => 1
def uptoBulkAll {H : Type} : List (DataW H) → Nat
  | [] => 0
  | d :: r => uptoBulk d + uptoBulkAll r
def uptoBulkEntries {H : Type} : List (Lit × DataW H) → Nat
  | [] => 0
  | x :: r => uptoBulkEntry x + uptoBulkEntries r
def uptoBulkEntry {H : Type} : Lit × DataW H → Nat
  | (.string bytes, d) => bytes.length + uptoBulk d + 1
  | (_, d) => uptoBulk d + 1
 end
def uptoSmall : (H : Type) → List (DataW H) → Bool := fun _ ds => decide (uptoBulkAll ds ≤ 1048576)
def OpenSpec.upto (s : _root_.Go.ChangeSpec) : _root_.Go.OpenSpec := { _root_.Go.OpenSpec.ofChange s with cond := some uptoSmall }

/-- 'tidepoollaw13.ScanWalks', WHERE WHAT IT READS IS OF BULK AT MOST 1048576: true; the input reads as it did. -/
def scanWalksUptoRow : OpenClaim := { program := "ytnlnpfpfggbheaa", sum := "37d1fde236db452ee4b891da1d1947d6bb2f7a7efb6a77ea4b3a81d49c1d90bd", func := "tidepool/tidepoollaw13.ScanWalks", spec := "scanWalks", inPlace := ["slices.overlaps[string]", "slices.overlaps[int]", "slices.overlaps[tidepool/arena.Handle]"], unfollowed := true, recurses := true, apart := false, narrowed := true }
def ScanWalksUptoSaid : Prop := scanWalksUptoRow.holds Try.pinned (OpenSpec.upto scanWalksSpec)

/-- 'tidepoollaw13.ScanPlays', WHERE WHAT IT READS IS OF BULK AT MOST 1048576: true; the input reads as it did. -/
def scanPlaysUptoRow : OpenClaim := { program := "ytnlnpfpfggbheaa", sum := "37d1fde236db452ee4b891da1d1947d6bb2f7a7efb6a77ea4b3a81d49c1d90bd", func := "tidepool/tidepoollaw13.ScanPlays", spec := "scanPlays", inPlace := ["slices.overlaps[string]", "slices.overlaps[int]", "slices.overlaps[tidepool/arena.Handle]"], unfollowed := true, recurses := true, apart := false, narrowed := true }
def ScanPlaysUptoSaid : Prop := scanPlaysUptoRow.holds Try.pinned (OpenSpec.upto scanPlaysSpec)

/-- 'tidepoollaw13.ScanNone', WHERE WHAT IT READS IS OF BULK AT MOST 1048576: true; the input reads as it did. -/
def scanNoneUptoRow : OpenClaim := { program := "ytnlnpfpfggbheaa", sum := "37d1fde236db452ee4b891da1d1947d6bb2f7a7efb6a77ea4b3a81d49c1d90bd", func := "tidepool/tidepoollaw13.ScanNone", spec := "scanNone", inPlace := ["slices.overlaps[string]", "slices.overlaps[int]", "slices.overlaps[tidepool/arena.Handle]"], unfollowed := true, recurses := true, apart := false, narrowed := true }
def ScanNoneUptoSaid : Prop := scanNoneUptoRow.holds Try.pinned (OpenSpec.upto scanNoneSpec)

/-- 'tidepoollaw13.ScanKnown', WHERE WHAT IT READS IS OF BULK AT MOST 1048576: true; the input reads as it did. -/
def scanKnownUptoRow : OpenClaim := { program := "ytnlnpfpfggbheaa", sum := "37d1fde236db452ee4b891da1d1947d6bb2f7a7efb6a77ea4b3a81d49c1d90bd", func := "tidepool/tidepoollaw13.ScanKnown", spec := "scanKnown", inPlace := ["slices.overlaps[string]", "slices.overlaps[int]", "slices.overlaps[tidepool/arena.Handle]"], unfollowed := true, recurses := true, apart := false, narrowed := true }
def ScanKnownUptoSaid : Prop := scanKnownUptoRow.holds Try.pinned (OpenSpec.upto scanKnownSpec)

/-- 'tidepoollaw12.TreeStands', WHERE WHAT IT READS IS OF BULK AT MOST 1048576: true; the input reads as it did. -/
def treeStandsUptoRow : OpenClaim := { program := "ytnlnpfpfggbheaa", sum := "37d1fde236db452ee4b891da1d1947d6bb2f7a7efb6a77ea4b3a81d49c1d90bd", func := "tidepool/tidepoollaw12.TreeStands", spec := "treeStands", inPlace := ["slices.overlaps[string]", "slices.overlaps[int]", "slices.overlaps[tidepool/arena.Handle]"], unfollowed := true, recurses := true, apart := false, narrowed := true }
def TreeStandsUptoSaid : Prop := treeStandsUptoRow.holds Try.pinned (OpenSpec.upto treeStandsSpec)

/-- 'tidepoollaw12.TreeEmpties', WHERE WHAT IT READS IS OF BULK AT MOST 1048576: true; the input reads as it did. -/
def treeEmptiesUptoRow : OpenClaim := { program := "ytnlnpfpfggbheaa", sum := "37d1fde236db452ee4b891da1d1947d6bb2f7a7efb6a77ea4b3a81d49c1d90bd", func := "tidepool/tidepoollaw12.TreeEmpties", spec := "treeEmpties", inPlace := ["slices.overlaps[string]", "slices.overlaps[int]", "slices.overlaps[tidepool/arena.Handle]"], unfollowed := true, recurses := true, apart := false, narrowed := true }
def TreeEmptiesUptoSaid : Prop := treeEmptiesUptoRow.holds Try.pinned (OpenSpec.upto treeEmptiesSpec)

/-- 'tidepoollaw12.TreePlays', WHERE WHAT IT READS IS OF BULK AT MOST 1048576: true; the input reads as it did. -/
def treePlaysUptoRow : OpenClaim := { program := "ytnlnpfpfggbheaa", sum := "37d1fde236db452ee4b891da1d1947d6bb2f7a7efb6a77ea4b3a81d49c1d90bd", func := "tidepool/tidepoollaw12.TreePlays", spec := "treePlays", inPlace := ["slices.overlaps[string]", "slices.overlaps[int]", "slices.overlaps[tidepool/arena.Handle]"], unfollowed := true, recurses := true, apart := false, narrowed := true }
def TreePlaysUptoSaid : Prop := treePlaysUptoRow.holds Try.pinned (OpenSpec.upto treePlaysSpec)

/-- 'tidepoollaw12.TreeNone', WHERE WHAT IT READS IS OF BULK AT MOST 1048576: true; the input reads as it did. -/
def treeNoneUptoRow : OpenClaim := { program := "ytnlnpfpfggbheaa", sum := "37d1fde236db452ee4b891da1d1947d6bb2f7a7efb6a77ea4b3a81d49c1d90bd", func := "tidepool/tidepoollaw12.TreeNone", spec := "treeNone", inPlace := ["slices.overlaps[string]", "slices.overlaps[int]", "slices.overlaps[tidepool/arena.Handle]"], unfollowed := true, recurses := true, apart := false, narrowed := true }
def TreeNoneUptoSaid : Prop := treeNoneUptoRow.holds Try.pinned (OpenSpec.upto treeNoneSpec)

end Rows
end Go.Proofs.Ytnlnpfpfggbheaa
