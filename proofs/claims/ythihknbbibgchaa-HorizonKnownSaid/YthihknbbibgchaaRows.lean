/-
  No cell of these rows narrows 'for every input' (looked for: loops, veiled, ifaces, maps, wideKeys, modest, calm, conditions, laid).
  DERIVED. THE GIVEN ROWS OF THIS SEAT. 7 by the template 'for every input the law returns true; each argument reads behind the call as it read before'; 0 by the template 'total and deterministic' (their statements: YthihknbbibgchaaTotals.lean).
  GIVEN WITH THE SEED: the statements are not yours to turn. If you find one false, say at which input.
  Laid BY PROGRAM, IN A SANDBOX (cutbox-rows.mjs): the forced cells as the released guide's own fill.sh prints them over the translation 611d5b546ee712a2… (all of the seat's roots in one cut). By AI agents, Wed Nov 11 2026. No macro, syntax, notation, axiom, sorry.
-/
import Derived.Test.YthihknbbibgchaaChecked
import GoSem.Claim
import GoSem.ClaimJoined
import GoSem.ClaimMapViews
import Derived.JoinedTies
import Derived.KernelRfl
namespace Go.Proofs.Ythihknbbibgchaa
/- THE CELL 'sum', in the pinned program and in every row, IS THE sha256 OF THE DUMP (.gsa) THAT YthihknbbibgchaaProg.lean LOADS. Nothing in Lean hashes anything: it is a label: what it is worth is what the hold of that sum in a sandbox is worth. -/
noncomputable def Try.pinned : Pinned := { name := "ythihknbbibgchaa", sum := "611d5b546ee712a2d4a14d5a02af86f63ea44336a07c7259b9a96c6b02a14936", checked := Try.checked }
namespace Rows
def none {H : Type} : Left H := { results := [], args := [] }

/-- 'tidepoollaw23.HorizonPlays': WHATEVER THE INPUT: true; the input reads as it did. -/
def horizonPlaysSpec : ChangeSpec := { name := "horizonPlays", fn := fun _ => fun
  | [d1, d2, d3] => { results := [.lit (.bool true)], args := [d1, d2, d3] }
  | _ => none }
def horizonPlaysRow : OpenClaim := { program := "ythihknbbibgchaa", sum := "611d5b546ee712a2d4a14d5a02af86f63ea44336a07c7259b9a96c6b02a14936", func := "tidepool/tidepoollaw23.HorizonPlays", spec := "horizonPlays", unfollowed := true, recurses := true, plainKeys := false, apart := false }
def HorizonPlaysSaid : Prop := horizonPlaysRow.holds Try.pinned (OpenSpec.ofChange horizonPlaysSpec)

/-- ITS FALSE NEIGHBOUR: 'it returns false'. Refute it at one input. -/
def horizonPlaysWrong : ChangeSpec := { name := "horizonPlays", fn := fun _ => fun
  | [d1, d2, d3] => { results := [.lit (.bool false)], args := [d1, d2, d3] }
  | _ => none }
def HorizonPlaysWrongFalsely : Prop := horizonPlaysRow.holds Try.pinned (OpenSpec.ofChange horizonPlaysWrong)

/-- 'tidepoollaw23.HorizonFloors': WHATEVER THE INPUT: true; the input reads as it did. -/
def horizonFloorsSpec : ChangeSpec := { name := "horizonFloors", fn := fun _ => fun
  | [d] => { results := [.lit (.bool true)], args := [d] }
  | _ => none }
def horizonFloorsRow : OpenClaim := { program := "ythihknbbibgchaa", sum := "611d5b546ee712a2d4a14d5a02af86f63ea44336a07c7259b9a96c6b02a14936", func := "tidepool/tidepoollaw23.HorizonFloors", spec := "horizonFloors", unfollowed := true, recurses := true, plainKeys := false, apart := false }
def HorizonFloorsSaid : Prop := horizonFloorsRow.holds Try.pinned (OpenSpec.ofChange horizonFloorsSpec)

/-- ITS FALSE NEIGHBOUR: 'it returns false'. Refute it at one input. -/
def horizonFloorsWrong : ChangeSpec := { name := "horizonFloors", fn := fun _ => fun
  | [d] => { results := [.lit (.bool false)], args := [d] }
  | _ => none }
def HorizonFloorsWrongFalsely : Prop := horizonFloorsRow.holds Try.pinned (OpenSpec.ofChange horizonFloorsWrong)

/-- 'tidepoollaw23.HorizonNone': WHATEVER THE INPUT: true; the input reads as it did. -/
def horizonNoneSpec : ChangeSpec := { name := "horizonNone", fn := fun _ => fun
  | [d1, d2, d3] => { results := [.lit (.bool true)], args := [d1, d2, d3] }
  | _ => none }
def horizonNoneRow : OpenClaim := { program := "ythihknbbibgchaa", sum := "611d5b546ee712a2d4a14d5a02af86f63ea44336a07c7259b9a96c6b02a14936", func := "tidepool/tidepoollaw23.HorizonNone", spec := "horizonNone", unfollowed := true, recurses := true, plainKeys := false, apart := false }
def HorizonNoneSaid : Prop := horizonNoneRow.holds Try.pinned (OpenSpec.ofChange horizonNoneSpec)

/-- ITS FALSE NEIGHBOUR: 'it returns false'. Refute it at one input. -/
def horizonNoneWrong : ChangeSpec := { name := "horizonNone", fn := fun _ => fun
  | [d1, d2, d3] => { results := [.lit (.bool false)], args := [d1, d2, d3] }
  | _ => none }
def HorizonNoneWrongFalsely : Prop := horizonNoneRow.holds Try.pinned (OpenSpec.ofChange horizonNoneWrong)

/-- 'tidepoollaw23.HorizonKnown': WHATEVER THE INPUT: true; the input reads as it did. -/
def horizonKnownSpec : ChangeSpec := { name := "horizonKnown", fn := fun _ => fun
  | [] => { results := [.lit (.bool true)], args := [] }
  | _ => none }
def horizonKnownRow : OpenClaim := { program := "ythihknbbibgchaa", sum := "611d5b546ee712a2d4a14d5a02af86f63ea44336a07c7259b9a96c6b02a14936", func := "tidepool/tidepoollaw23.HorizonKnown", spec := "horizonKnown", unfollowed := true, recurses := true, plainKeys := false, apart := false }
def HorizonKnownSaid : Prop := horizonKnownRow.holds Try.pinned (OpenSpec.ofChange horizonKnownSpec)

/-- ITS FALSE NEIGHBOUR: 'it returns false'. Refute it at one input. -/
def horizonKnownWrong : ChangeSpec := { name := "horizonKnown", fn := fun _ => fun
  | [] => { results := [.lit (.bool false)], args := [] }
  | _ => none }
def HorizonKnownWrongFalsely : Prop := horizonKnownRow.holds Try.pinned (OpenSpec.ofChange horizonKnownWrong)

/-- 'tidepoollaw17.SessionInserts': WHATEVER THE INPUT: true; the input reads as it did. -/
def sessionInsertsSpec : ChangeSpec := { name := "sessionInserts", fn := fun _ => fun
  | [d1, d2, d3] => { results := [.lit (.bool true)], args := [d1, d2, d3] }
  | _ => none }
def sessionInsertsRow : OpenClaim := { program := "ythihknbbibgchaa", sum := "611d5b546ee712a2d4a14d5a02af86f63ea44336a07c7259b9a96c6b02a14936", func := "tidepool/tidepoollaw17.SessionInserts", spec := "sessionInserts", inPlace := ["slices.overlaps[tidepool/session.Span]"], unfollowed := true, recurses := true, plainKeys := false, apart := false }
def SessionInsertsSaid : Prop := sessionInsertsRow.holds Try.pinned (OpenSpec.ofChange sessionInsertsSpec)

/-- ITS FALSE NEIGHBOUR: 'it returns false'. Refute it at one input. -/
def sessionInsertsWrong : ChangeSpec := { name := "sessionInserts", fn := fun _ => fun
  | [d1, d2, d3] => { results := [.lit (.bool false)], args := [d1, d2, d3] }
  | _ => none }
def SessionInsertsWrongFalsely : Prop := sessionInsertsRow.holds Try.pinned (OpenSpec.ofChange sessionInsertsWrong)

/-- 'tidepoollaw17.SessionOf': WHATEVER THE INPUT: true; the input reads as it did. -/
def sessionOfSpec : ChangeSpec := { name := "sessionOf", fn := fun _ => fun
  | [d1, d2, d3, d4] => { results := [.lit (.bool true)], args := [d1, d2, d3, d4] }
  | _ => none }
def sessionOfRow : OpenClaim := { program := "ythihknbbibgchaa", sum := "611d5b546ee712a2d4a14d5a02af86f63ea44336a07c7259b9a96c6b02a14936", func := "tidepool/tidepoollaw17.SessionOf", spec := "sessionOf", inPlace := ["slices.overlaps[tidepool/session.Span]"], unfollowed := true, recurses := true, plainKeys := false, apart := false }
def SessionOfSaid : Prop := sessionOfRow.holds Try.pinned (OpenSpec.ofChange sessionOfSpec)

/-- ITS FALSE NEIGHBOUR: 'it returns false'. Refute it at one input. -/
def sessionOfWrong : ChangeSpec := { name := "sessionOf", fn := fun _ => fun
  | [d1, d2, d3, d4] => { results := [.lit (.bool false)], args := [d1, d2, d3, d4] }
  | _ => none }
def SessionOfWrongFalsely : Prop := sessionOfRow.holds Try.pinned (OpenSpec.ofChange sessionOfWrong)

/-- 'tidepoollaw17.SessionKnown': WHATEVER THE INPUT: true; the input reads as it did. -/
def sessionKnownSpec : ChangeSpec := { name := "sessionKnown", fn := fun _ => fun
  | [] => { results := [.lit (.bool true)], args := [] }
  | _ => none }
def sessionKnownRow : OpenClaim := { program := "ythihknbbibgchaa", sum := "611d5b546ee712a2d4a14d5a02af86f63ea44336a07c7259b9a96c6b02a14936", func := "tidepool/tidepoollaw17.SessionKnown", spec := "sessionKnown", inPlace := ["slices.overlaps[tidepool/session.Span]"], unfollowed := true, recurses := true, plainKeys := false, apart := false }
def SessionKnownSaid : Prop := sessionKnownRow.holds Try.pinned (OpenSpec.ofChange sessionKnownSpec)

/-- ITS FALSE NEIGHBOUR: 'it returns false'. Refute it at one input. -/
def sessionKnownWrong : ChangeSpec := { name := "sessionKnown", fn := fun _ => fun
  | [] => { results := [.lit (.bool false)], args := [] }
  | _ => none }
def SessionKnownWrongFalsely : Prop := sessionKnownRow.holds Try.pinned (OpenSpec.ofChange sessionKnownWrong)

/- THE SECOND FORM. 'bulk': how many values and letters a reading holds, each counted each time it is reached (what is shared counts as often as it is met; a slice's spare places count too). A statement '..UptoSaid' is the law's where the arguments, and the package variables that the reading takes, are together of bulk at most 1048576: NARROWER than '..Said'. Prove '..Said' where nothing that the law and all that it calls make is longer than what came in: it says more and counts as full. Else prove '..UptoSaid'. A law counts once. -/
mutual
def uptoBulk {H : Type} : DataW H → Nat
  | .lit (.string bytes) => bytes.length + 1
  | .lit _ => 1
  | .nil => 1
  | .ptr d => uptoBulk d + 1
  | .slice elems spare => uptoBulkAll elems + uptoBulkAll spare + 1
  | .agg parts => uptoBulkAll parts + 1
  | .iface _ d => uptoBulk d + 1
  | .map entries => uptoBulkEntries entries + 1
  | .held _ => 1
def uptoBulkAll {H : Type} : List (DataW H) → Nat
  | [] => 0
  | d :: r => uptoBulk d + uptoBulkAll r
def uptoBulkEntries {H : Type} : List (Lit × DataW H) → Nat
  | [] => 0
  | x :: r => uptoBulkEntry x + uptoBulkEntries r
def uptoBulkEntry {H : Type} : Lit × DataW H → Nat
  | (.string bytes, d) => bytes.length + uptoBulk d + 1
  | (_, d) => uptoBulk d + 1
 end
def uptoSmall : (H : Type) → List (DataW H) → Bool := fun _ ds => decide (uptoBulkAll ds ≤ 1048576)
def OpenSpec.upto (s : _root_.Go.ChangeSpec) : _root_.Go.OpenSpec := { _root_.Go.OpenSpec.ofChange s with cond := some uptoSmall }

/-- 'tidepoollaw23.HorizonPlays', WHERE WHAT IT READS IS OF BULK AT MOST 1048576: true; the input reads as it did. -/
def horizonPlaysUptoRow : OpenClaim := { program := "ythihknbbibgchaa", sum := "611d5b546ee712a2d4a14d5a02af86f63ea44336a07c7259b9a96c6b02a14936", func := "tidepool/tidepoollaw23.HorizonPlays", spec := "horizonPlays", unfollowed := true, recurses := true, plainKeys := false, apart := false, narrowed := true }
def HorizonPlaysUptoSaid : Prop := horizonPlaysUptoRow.holds Try.pinned (OpenSpec.upto horizonPlaysSpec)

/-- 'tidepoollaw23.HorizonFloors', WHERE WHAT IT READS IS OF BULK AT MOST 1048576: true; the input reads as it did. -/
def horizonFloorsUptoRow : OpenClaim := { program := "ythihknbbibgchaa", sum := "611d5b546ee712a2d4a14d5a02af86f63ea44336a07c7259b9a96c6b02a14936", func := "tidepool/tidepoollaw23.HorizonFloors", spec := "horizonFloors", unfollowed := true, recurses := true, plainKeys := false, apart := false, narrowed := true }
def HorizonFloorsUptoSaid : Prop := horizonFloorsUptoRow.holds Try.pinned (OpenSpec.upto horizonFloorsSpec)

/-- 'tidepoollaw23.HorizonNone', WHERE WHAT IT READS IS OF BULK AT MOST 1048576: true; the input reads as it did. -/
def horizonNoneUptoRow : OpenClaim := { program := "ythihknbbibgchaa", sum := "611d5b546ee712a2d4a14d5a02af86f63ea44336a07c7259b9a96c6b02a14936", func := "tidepool/tidepoollaw23.HorizonNone", spec := "horizonNone", unfollowed := true, recurses := true, plainKeys := false, apart := false, narrowed := true }
def HorizonNoneUptoSaid : Prop := horizonNoneUptoRow.holds Try.pinned (OpenSpec.upto horizonNoneSpec)

/-- 'tidepoollaw23.HorizonKnown', WHERE WHAT IT READS IS OF BULK AT MOST 1048576: true; the input reads as it did. -/
def horizonKnownUptoRow : OpenClaim := { program := "ythihknbbibgchaa", sum := "611d5b546ee712a2d4a14d5a02af86f63ea44336a07c7259b9a96c6b02a14936", func := "tidepool/tidepoollaw23.HorizonKnown", spec := "horizonKnown", unfollowed := true, recurses := true, plainKeys := false, apart := false, narrowed := true }
def HorizonKnownUptoSaid : Prop := horizonKnownUptoRow.holds Try.pinned (OpenSpec.upto horizonKnownSpec)

/-- 'tidepoollaw17.SessionInserts', WHERE WHAT IT READS IS OF BULK AT MOST 1048576: true; the input reads as it did. -/
def sessionInsertsUptoRow : OpenClaim := { program := "ythihknbbibgchaa", sum := "611d5b546ee712a2d4a14d5a02af86f63ea44336a07c7259b9a96c6b02a14936", func := "tidepool/tidepoollaw17.SessionInserts", spec := "sessionInserts", inPlace := ["slices.overlaps[tidepool/session.Span]"], unfollowed := true, recurses := true, plainKeys := false, apart := false, narrowed := true }
def SessionInsertsUptoSaid : Prop := sessionInsertsUptoRow.holds Try.pinned (OpenSpec.upto sessionInsertsSpec)

/-- 'tidepoollaw17.SessionOf', WHERE WHAT IT READS IS OF BULK AT MOST 1048576: true; the input reads as it did. -/
def sessionOfUptoRow : OpenClaim := { program := "ythihknbbibgchaa", sum := "611d5b546ee712a2d4a14d5a02af86f63ea44336a07c7259b9a96c6b02a14936", func := "tidepool/tidepoollaw17.SessionOf", spec := "sessionOf", inPlace := ["slices.overlaps[tidepool/session.Span]"], unfollowed := true, recurses := true, plainKeys := false, apart := false, narrowed := true }
def SessionOfUptoSaid : Prop := sessionOfUptoRow.holds Try.pinned (OpenSpec.upto sessionOfSpec)

/-- 'tidepoollaw17.SessionKnown', WHERE WHAT IT READS IS OF BULK AT MOST 1048576: true; the input reads as it did. -/
def sessionKnownUptoRow : OpenClaim := { program := "ythihknbbibgchaa", sum := "611d5b546ee712a2d4a14d5a02af86f63ea44336a07c7259b9a96c6b02a14936", func := "tidepool/tidepoollaw17.SessionKnown", spec := "sessionKnown", inPlace := ["slices.overlaps[tidepool/session.Span]"], unfollowed := true, recurses := true, plainKeys := false, apart := false, narrowed := true }
def SessionKnownUptoSaid : Prop := sessionKnownUptoRow.holds Try.pinned (OpenSpec.upto sessionKnownSpec)

end Rows
end Go.Proofs.Ythihknbbibgchaa
