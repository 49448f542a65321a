/-
  No cell of these rows narrows 'for every input' (looked for: loops, veiled, ifaces, maps, wideKeys, modest, calm, conditions, laid).
  DERIVED. THE GIVEN ROWS OF THIS SEAT. 12 by the template 'for every input the law returns true; each argument reads behind the call as it read before'; 0 by the template 'total and deterministic' (their statements: YtlehkjkpgmkbiaaTotals.lean).
  GIVEN WITH THE SEED: the statements are not yours to turn. If you find one false, say at which input.
  Laid BY PROGRAM, IN A SANDBOX (cutbox-rows.mjs): the forced cells as the released guide's own fill.sh prints them over the translation 7875c1a712fb06c2… (all of the seat's roots in one cut). By AI agents, Wed Nov 11 2026. No macro, syntax, notation, axiom, sorry.
-/
import Derived.Test.YtlehkjkpgmkbiaaChecked
import GoSem.Claim
import GoSem.ClaimJoined
import GoSem.ClaimMapViews
import Derived.JoinedTies
import Derived.KernelRfl
namespace Go.Proofs.Ytlehkjkpgmkbiaa
/- THE CELL 'sum', in the pinned program and in every row, IS THE sha256 OF THE DUMP (.gsa) THAT YtlehkjkpgmkbiaaProg.lean LOADS. Nothing in Lean hashes anything: it is a label: what it is worth is what the hold of that sum in a sandbox is worth. -/
noncomputable def Try.pinned : Pinned := { name := "ytlehkjkpgmkbiaa", sum := "7875c1a712fb06c2fcf57aab2d205bf568d9218dc9755519c4ade960ddb53351", checked := Try.checked }
namespace Rows
def none {H : Type} : Left H := { results := [], args := [] }

/-- 'tidepoollaw15.ChainKeeps': WHATEVER THE INPUT: true; the input reads as it did. -/
def chainKeepsSpec : ChangeSpec := { name := "chainKeeps", fn := fun _ => fun
  | [d1, d2, d3, d4] => { results := [.lit (.bool true)], args := [d1, d2, d3, d4] }
  | _ => none }
def chainKeepsRow : OpenClaim := { program := "ytlehkjkpgmkbiaa", sum := "7875c1a712fb06c2fcf57aab2d205bf568d9218dc9755519c4ade960ddb53351", func := "tidepool/tidepoollaw15.ChainKeeps", spec := "chainKeeps", unfollowed := true, recurses := true, apart := false }
def ChainKeepsSaid : Prop := chainKeepsRow.holds Try.pinned (OpenSpec.ofChange chainKeepsSpec)

/-- ITS FALSE NEIGHBOUR: 'it returns false'. Refute it at one input. -/
def chainKeepsWrong : ChangeSpec := { name := "chainKeeps", fn := fun _ => fun
  | [d1, d2, d3, d4] => { results := [.lit (.bool false)], args := [d1, d2, d3, d4] }
  | _ => none }
def ChainKeepsWrongFalsely : Prop := chainKeepsRow.holds Try.pinned (OpenSpec.ofChange chainKeepsWrong)

/-- 'tidepoollaw15.ChainTells': WHATEVER THE INPUT: true; the input reads as it did. -/
def chainTellsSpec : ChangeSpec := { name := "chainTells", fn := fun _ => fun
  | [d1, d2, d3] => { results := [.lit (.bool true)], args := [d1, d2, d3] }
  | _ => none }
def chainTellsRow : OpenClaim := { program := "ytlehkjkpgmkbiaa", sum := "7875c1a712fb06c2fcf57aab2d205bf568d9218dc9755519c4ade960ddb53351", func := "tidepool/tidepoollaw15.ChainTells", spec := "chainTells", unfollowed := true, recurses := true, apart := false }
def ChainTellsSaid : Prop := chainTellsRow.holds Try.pinned (OpenSpec.ofChange chainTellsSpec)

/-- ITS FALSE NEIGHBOUR: 'it returns false'. Refute it at one input. -/
def chainTellsWrong : ChangeSpec := { name := "chainTells", fn := fun _ => fun
  | [d1, d2, d3] => { results := [.lit (.bool false)], args := [d1, d2, d3] }
  | _ => none }
def ChainTellsWrongFalsely : Prop := chainTellsRow.holds Try.pinned (OpenSpec.ofChange chainTellsWrong)

/-- 'tidepoollaw15.ChainPlays': WHATEVER THE INPUT: true; the input reads as it did. -/
def chainPlaysSpec : ChangeSpec := { name := "chainPlays", fn := fun _ => fun
  | [d] => { results := [.lit (.bool true)], args := [d] }
  | _ => none }
def chainPlaysRow : OpenClaim := { program := "ytlehkjkpgmkbiaa", sum := "7875c1a712fb06c2fcf57aab2d205bf568d9218dc9755519c4ade960ddb53351", func := "tidepool/tidepoollaw15.ChainPlays", spec := "chainPlays", unfollowed := true, recurses := true, apart := false }
def ChainPlaysSaid : Prop := chainPlaysRow.holds Try.pinned (OpenSpec.ofChange chainPlaysSpec)

/-- ITS FALSE NEIGHBOUR: 'it returns false'. Refute it at one input. -/
def chainPlaysWrong : ChangeSpec := { name := "chainPlays", fn := fun _ => fun
  | [d] => { results := [.lit (.bool false)], args := [d] }
  | _ => none }
def ChainPlaysWrongFalsely : Prop := chainPlaysRow.holds Try.pinned (OpenSpec.ofChange chainPlaysWrong)

/-- 'tidepoollaw15.ChainNone': WHATEVER THE INPUT: true; the input reads as it did. -/
def chainNoneSpec : ChangeSpec := { name := "chainNone", fn := fun _ => fun
  | [d1, d2, d3] => { results := [.lit (.bool true)], args := [d1, d2, d3] }
  | _ => none }
def chainNoneRow : OpenClaim := { program := "ytlehkjkpgmkbiaa", sum := "7875c1a712fb06c2fcf57aab2d205bf568d9218dc9755519c4ade960ddb53351", func := "tidepool/tidepoollaw15.ChainNone", spec := "chainNone", unfollowed := true, recurses := true, apart := false }
def ChainNoneSaid : Prop := chainNoneRow.holds Try.pinned (OpenSpec.ofChange chainNoneSpec)

/-- ITS FALSE NEIGHBOUR: 'it returns false'. Refute it at one input. -/
def chainNoneWrong : ChangeSpec := { name := "chainNone", fn := fun _ => fun
  | [d1, d2, d3] => { results := [.lit (.bool false)], args := [d1, d2, d3] }
  | _ => none }
def ChainNoneWrongFalsely : Prop := chainNoneRow.holds Try.pinned (OpenSpec.ofChange chainNoneWrong)

/-- 'tidepoollaw15.ChainKnown': WHATEVER THE INPUT: true; the input reads as it did. -/
def chainKnownSpec : ChangeSpec := { name := "chainKnown", fn := fun _ => fun
  | [] => { results := [.lit (.bool true)], args := [] }
  | _ => none }
def chainKnownRow : OpenClaim := { program := "ytlehkjkpgmkbiaa", sum := "7875c1a712fb06c2fcf57aab2d205bf568d9218dc9755519c4ade960ddb53351", func := "tidepool/tidepoollaw15.ChainKnown", spec := "chainKnown", unfollowed := true, recurses := true, apart := false }
def ChainKnownSaid : Prop := chainKnownRow.holds Try.pinned (OpenSpec.ofChange chainKnownSpec)

/-- ITS FALSE NEIGHBOUR: 'it returns false'. Refute it at one input. -/
def chainKnownWrong : ChangeSpec := { name := "chainKnown", fn := fun _ => fun
  | [] => { results := [.lit (.bool false)], args := [] }
  | _ => none }
def ChainKnownWrongFalsely : Prop := chainKnownRow.holds Try.pinned (OpenSpec.ofChange chainKnownWrong)

/-- 'tidepoollaw22.LeaseStays': WHATEVER THE INPUT: true; the input reads as it did. -/
def leaseStaysSpec : ChangeSpec := { name := "leaseStays", fn := fun _ => fun
  | [d1, d2, d3, d4] => { results := [.lit (.bool true)], args := [d1, d2, d3, d4] }
  | _ => none }
def leaseStaysRow : OpenClaim := { program := "ytlehkjkpgmkbiaa", sum := "7875c1a712fb06c2fcf57aab2d205bf568d9218dc9755519c4ade960ddb53351", func := "tidepool/tidepoollaw22.LeaseStays", spec := "leaseStays", unfollowed := true, recurses := true, apart := false }
def LeaseStaysSaid : Prop := leaseStaysRow.holds Try.pinned (OpenSpec.ofChange leaseStaysSpec)

/-- ITS FALSE NEIGHBOUR: 'it returns false'. Refute it at one input. -/
def leaseStaysWrong : ChangeSpec := { name := "leaseStays", fn := fun _ => fun
  | [d1, d2, d3, d4] => { results := [.lit (.bool false)], args := [d1, d2, d3, d4] }
  | _ => none }
def LeaseStaysWrongFalsely : Prop := leaseStaysRow.holds Try.pinned (OpenSpec.ofChange leaseStaysWrong)

/-- 'tidepoollaw22.LeasePlays': WHATEVER THE INPUT: true; the input reads as it did. -/
def leasePlaysSpec : ChangeSpec := { name := "leasePlays", fn := fun _ => fun
  | [d1, d2] => { results := [.lit (.bool true)], args := [d1, d2] }
  | _ => none }
def leasePlaysRow : OpenClaim := { program := "ytlehkjkpgmkbiaa", sum := "7875c1a712fb06c2fcf57aab2d205bf568d9218dc9755519c4ade960ddb53351", func := "tidepool/tidepoollaw22.LeasePlays", spec := "leasePlays", unfollowed := true, recurses := true, apart := false }
def LeasePlaysSaid : Prop := leasePlaysRow.holds Try.pinned (OpenSpec.ofChange leasePlaysSpec)

/-- ITS FALSE NEIGHBOUR: 'it returns false'. Refute it at one input. -/
def leasePlaysWrong : ChangeSpec := { name := "leasePlays", fn := fun _ => fun
  | [d1, d2] => { results := [.lit (.bool false)], args := [d1, d2] }
  | _ => none }
def LeasePlaysWrongFalsely : Prop := leasePlaysRow.holds Try.pinned (OpenSpec.ofChange leasePlaysWrong)

/-- 'tidepoollaw22.LeaseNone': WHATEVER THE INPUT: true; the input reads as it did. -/
def leaseNoneSpec : ChangeSpec := { name := "leaseNone", fn := fun _ => fun
  | [d] => { results := [.lit (.bool true)], args := [d] }
  | _ => none }
def leaseNoneRow : OpenClaim := { program := "ytlehkjkpgmkbiaa", sum := "7875c1a712fb06c2fcf57aab2d205bf568d9218dc9755519c4ade960ddb53351", func := "tidepool/tidepoollaw22.LeaseNone", spec := "leaseNone", unfollowed := true, recurses := true, apart := false }
def LeaseNoneSaid : Prop := leaseNoneRow.holds Try.pinned (OpenSpec.ofChange leaseNoneSpec)

/-- ITS FALSE NEIGHBOUR: 'it returns false'. Refute it at one input. -/
def leaseNoneWrong : ChangeSpec := { name := "leaseNone", fn := fun _ => fun
  | [d] => { results := [.lit (.bool false)], args := [d] }
  | _ => none }
def LeaseNoneWrongFalsely : Prop := leaseNoneRow.holds Try.pinned (OpenSpec.ofChange leaseNoneWrong)

/-- 'tidepoollaw22.LeaseKnown': WHATEVER THE INPUT: true; the input reads as it did. -/
def leaseKnownSpec : ChangeSpec := { name := "leaseKnown", fn := fun _ => fun
  | [] => { results := [.lit (.bool true)], args := [] }
  | _ => none }
def leaseKnownRow : OpenClaim := { program := "ytlehkjkpgmkbiaa", sum := "7875c1a712fb06c2fcf57aab2d205bf568d9218dc9755519c4ade960ddb53351", func := "tidepool/tidepoollaw22.LeaseKnown", spec := "leaseKnown", unfollowed := true, recurses := true, apart := false }
def LeaseKnownSaid : Prop := leaseKnownRow.holds Try.pinned (OpenSpec.ofChange leaseKnownSpec)

/-- ITS FALSE NEIGHBOUR: 'it returns false'. Refute it at one input. -/
def leaseKnownWrong : ChangeSpec := { name := "leaseKnown", fn := fun _ => fun
  | [] => { results := [.lit (.bool false)], args := [] }
  | _ => none }
def LeaseKnownWrongFalsely : Prop := leaseKnownRow.holds Try.pinned (OpenSpec.ofChange leaseKnownWrong)

/-- 'tidepoollaw05.AggSorts': WHATEVER THE INPUT: true; the input reads as it did. -/
def aggSortsSpec : ChangeSpec := { name := "aggSorts", fn := fun _ => fun
  | [d1, d2] => { results := [.lit (.bool true)], args := [d1, d2] }
  | _ => none }
def aggSortsRow : OpenClaim := { program := "ytlehkjkpgmkbiaa", sum := "7875c1a712fb06c2fcf57aab2d205bf568d9218dc9755519c4ade960ddb53351", func := "tidepool/tidepoollaw05.AggSorts", spec := "aggSorts", unfollowed := true, recurses := true, apart := false }
def AggSortsSaid : Prop := aggSortsRow.holds Try.pinned (OpenSpec.ofChange aggSortsSpec)

/-- ITS FALSE NEIGHBOUR: 'it returns false'. Refute it at one input. -/
def aggSortsWrong : ChangeSpec := { name := "aggSorts", fn := fun _ => fun
  | [d1, d2] => { results := [.lit (.bool false)], args := [d1, d2] }
  | _ => none }
def AggSortsWrongFalsely : Prop := aggSortsRow.holds Try.pinned (OpenSpec.ofChange aggSortsWrong)

/-- 'tidepoollaw05.AggParts': WHATEVER THE INPUT: true; the input reads as it did. -/
def aggPartsSpec : ChangeSpec := { name := "aggParts", fn := fun _ => fun
  | [d1, d2, d3] => { results := [.lit (.bool true)], args := [d1, d2, d3] }
  | _ => none }
def aggPartsRow : OpenClaim := { program := "ytlehkjkpgmkbiaa", sum := "7875c1a712fb06c2fcf57aab2d205bf568d9218dc9755519c4ade960ddb53351", func := "tidepool/tidepoollaw05.AggParts", spec := "aggParts", unfollowed := true, recurses := true, apart := false }
def AggPartsSaid : Prop := aggPartsRow.holds Try.pinned (OpenSpec.ofChange aggPartsSpec)

/-- ITS FALSE NEIGHBOUR: 'it returns false'. Refute it at one input. -/
def aggPartsWrong : ChangeSpec := { name := "aggParts", fn := fun _ => fun
  | [d1, d2, d3] => { results := [.lit (.bool false)], args := [d1, d2, d3] }
  | _ => none }
def AggPartsWrongFalsely : Prop := aggPartsRow.holds Try.pinned (OpenSpec.ofChange aggPartsWrong)

/-- 'tidepoollaw05.AggKnown': WHATEVER THE INPUT: true; the input reads as it did. -/
def aggKnownSpec : ChangeSpec := { name := "aggKnown", fn := fun _ => fun
  | [] => { results := [.lit (.bool true)], args := [] }
  | _ => none }
def aggKnownRow : OpenClaim := { program := "ytlehkjkpgmkbiaa", sum := "7875c1a712fb06c2fcf57aab2d205bf568d9218dc9755519c4ade960ddb53351", func := "tidepool/tidepoollaw05.AggKnown", spec := "aggKnown", unfollowed := true, recurses := true, apart := false }
def AggKnownSaid : Prop := aggKnownRow.holds Try.pinned (OpenSpec.ofChange aggKnownSpec)

/-- ITS FALSE NEIGHBOUR: 'it returns false'. Refute it at one input. -/
def aggKnownWrong : ChangeSpec := { name := "aggKnown", fn := fun _ => fun
  | [] => { results := [.lit (.bool false)], args := [] }
  | _ => none }
def AggKnownWrongFalsely : Prop := aggKnownRow.holds Try.pinned (OpenSpec.ofChange aggKnownWrong)

/- THE SECOND FORM. 'bulk': how many values and letters a reading holds, each counted each time it is reached (what is shared counts as often as it is met; a slice's spare places count too). A statement '..UptoSaid' is the law's where the arguments, and the package variables that the reading takes, are together of bulk at most 1048576: NARROWER than '..Said'. Prove '..Said' where nothing that the law and all that it calls make is longer than what came in: it says more and counts as full. Else prove '..UptoSaid'. A law counts once. -/
mutual
def uptoBulk {H : Type} : DataW H → Nat
  | .lit (.string bytes) => bytes.length + 1
  | .lit _ => 1
  | .nil => 1
  | .ptr d => uptoBulk d + 1
  | .slice elems spare => uptoBulkAll elems + uptoBulkAll spare + 1
  | .agg parts => uptoBulkAll parts + 1
  | .iface _ d => uptoBulk d + 1
  | .map entries => uptoBulkEntries entries + 1
  | .held _ => 1
def uptoBulkAll {H : Type} : List (DataW H) → Nat
  | [] => 0
  | d :: r => uptoBulk d + uptoBulkAll r
def uptoBulkEntries {H : Type} : List (Lit × DataW H) → Nat
  | [] => 0
  | x :: r => uptoBulkEntry x + uptoBulkEntries r
def uptoBulkEntry {H : Type} : Lit × DataW H → Nat
  | (.string bytes, d) => bytes.length + uptoBulk d + 1
  | (_, d) => uptoBulk d + 1
 end
def uptoSmall : (H : Type) → List (DataW H) → Bool := fun _ ds => decide (uptoBulkAll ds ≤ 1048576)
def OpenSpec.upto (s : _root_.Go.ChangeSpec) : _root_.Go.OpenSpec := { _root_.Go.OpenSpec.ofChange s with cond := some uptoSmall }

/-- 'tidepoollaw15.ChainKeeps', WHERE WHAT IT READS IS OF BULK AT MOST 1048576: true; the input reads as it did. -/
def chainKeepsUptoRow : OpenClaim := { program := "ytlehkjkpgmkbiaa", sum := "7875c1a712fb06c2fcf57aab2d205bf568d9218dc9755519c4ade960ddb53351", func := "tidepool/tidepoollaw15.ChainKeeps", spec := "chainKeeps", unfollowed := true, recurses := true, apart := false, narrowed := true }
def ChainKeepsUptoSaid : Prop := chainKeepsUptoRow.holds Try.pinned (OpenSpec.upto chainKeepsSpec)

/-- 'tidepoollaw15.ChainTells', WHERE WHAT IT READS IS OF BULK AT MOST 1048576: true; the input reads as it did. -/
def chainTellsUptoRow : OpenClaim := { program := "ytlehkjkpgmkbiaa", sum := "7875c1a712fb06c2fcf57aab2d205bf568d9218dc9755519c4ade960ddb53351", func := "tidepool/tidepoollaw15.ChainTells", spec := "chainTells", unfollowed := true, recurses := true, apart := false, narrowed := true }
def ChainTellsUptoSaid : Prop := chainTellsUptoRow.holds Try.pinned (OpenSpec.upto chainTellsSpec)

/-- 'tidepoollaw15.ChainPlays', WHERE WHAT IT READS IS OF BULK AT MOST 1048576: true; the input reads as it did. -/
def chainPlaysUptoRow : OpenClaim := { program := "ytlehkjkpgmkbiaa", sum := "7875c1a712fb06c2fcf57aab2d205bf568d9218dc9755519c4ade960ddb53351", func := "tidepool/tidepoollaw15.ChainPlays", spec := "chainPlays", unfollowed := true, recurses := true, apart := false, narrowed := true }
def ChainPlaysUptoSaid : Prop := chainPlaysUptoRow.holds Try.pinned (OpenSpec.upto chainPlaysSpec)

/-- 'tidepoollaw15.ChainNone', WHERE WHAT IT READS IS OF BULK AT MOST 1048576: true; the input reads as it did. -/
def chainNoneUptoRow : OpenClaim := { program := "ytlehkjkpgmkbiaa", sum := "7875c1a712fb06c2fcf57aab2d205bf568d9218dc9755519c4ade960ddb53351", func := "tidepool/tidepoollaw15.ChainNone", spec := "chainNone", unfollowed := true, recurses := true, apart := false, narrowed := true }
def ChainNoneUptoSaid : Prop := chainNoneUptoRow.holds Try.pinned (OpenSpec.upto chainNoneSpec)

/-- 'tidepoollaw15.ChainKnown', WHERE WHAT IT READS IS OF BULK AT MOST 1048576: true; the input reads as it did. -/
def chainKnownUptoRow : OpenClaim := { program := "ytlehkjkpgmkbiaa", sum := "7875c1a712fb06c2fcf57aab2d205bf568d9218dc9755519c4ade960ddb53351", func := "tidepool/tidepoollaw15.ChainKnown", spec := "chainKnown", unfollowed := true, recurses := true, apart := false, narrowed := true }
def ChainKnownUptoSaid : Prop := chainKnownUptoRow.holds Try.pinned (OpenSpec.upto chainKnownSpec)

/-- 'tidepoollaw22.LeaseStays', WHERE WHAT IT READS IS OF BULK AT MOST 1048576: true; the input reads as it did. -/
def leaseStaysUptoRow : OpenClaim := { program := "ytlehkjkpgmkbiaa", sum := "7875c1a712fb06c2fcf57aab2d205bf568d9218dc9755519c4ade960ddb53351", func := "tidepool/tidepoollaw22.LeaseStays", spec := "leaseStays", unfollowed := true, recurses := true, apart := false, narrowed := true }
def LeaseStaysUptoSaid : Prop := leaseStaysUptoRow.holds Try.pinned (OpenSpec.upto leaseStaysSpec)

/-- 'tidepoollaw22.LeasePlays', WHERE WHAT IT READS IS OF BULK AT MOST 1048576: true; the input reads as it did. -/
def leasePlaysUptoRow : OpenClaim := { program := "ytlehkjkpgmkbiaa", sum := "7875c1a712fb06c2fcf57aab2d205bf568d9218dc9755519c4ade960ddb53351", func := "tidepool/tidepoollaw22.LeasePlays", spec := "leasePlays", unfollowed := true, recurses := true, apart := false, narrowed := true }
def LeasePlaysUptoSaid : Prop := leasePlaysUptoRow.holds Try.pinned (OpenSpec.upto leasePlaysSpec)

/-- 'tidepoollaw22.LeaseNone', WHERE WHAT IT READS IS OF BULK AT MOST 1048576: true; the input reads as it did. -/
def leaseNoneUptoRow : OpenClaim := { program := "ytlehkjkpgmkbiaa", sum := "7875c1a712fb06c2fcf57aab2d205bf568d9218dc9755519c4ade960ddb53351", func := "tidepool/tidepoollaw22.LeaseNone", spec := "leaseNone", unfollowed := true, recurses := true, apart := false, narrowed := true }
def LeaseNoneUptoSaid : Prop := leaseNoneUptoRow.holds Try.pinned (OpenSpec.upto leaseNoneSpec)

/-- 'tidepoollaw22.LeaseKnown', WHERE WHAT IT READS IS OF BULK AT MOST 1048576: true; the input reads as it did. -/
def leaseKnownUptoRow : OpenClaim := { program := "ytlehkjkpgmkbiaa", sum := "7875c1a712fb06c2fcf57aab2d205bf568d9218dc9755519c4ade960ddb53351", func := "tidepool/tidepoollaw22.LeaseKnown", spec := "leaseKnown", unfollowed := true, recurses := true, apart := false, narrowed := true }
def LeaseKnownUptoSaid : Prop := leaseKnownUptoRow.holds Try.pinned (OpenSpec.upto leaseKnownSpec)

/-- 'tidepoollaw05.AggSorts', WHERE WHAT IT READS IS OF BULK AT MOST 1048576: true; the input reads as it did. -/
def aggSortsUptoRow : OpenClaim := { program := "ytlehkjkpgmkbiaa", sum := "7875c1a712fb06c2fcf57aab2d205bf568d9218dc9755519c4ade960ddb53351", func := "tidepool/tidepoollaw05.AggSorts", spec := "aggSorts", unfollowed := true, recurses := true, apart := false, narrowed := true }
def AggSortsUptoSaid : Prop := aggSortsUptoRow.holds Try.pinned (OpenSpec.upto aggSortsSpec)

/-- 'tidepoollaw05.AggParts', WHERE WHAT IT READS IS OF BULK AT MOST 1048576: true; the input reads as it did. -/
def aggPartsUptoRow : OpenClaim := { program := "ytlehkjkpgmkbiaa", sum := "7875c1a712fb06c2fcf57aab2d205bf568d9218dc9755519c4ade960ddb53351", func := "tidepool/tidepoollaw05.AggParts", spec := "aggParts", unfollowed := true, recurses := true, apart := false, narrowed := true }
def AggPartsUptoSaid : Prop := aggPartsUptoRow.holds Try.pinned (OpenSpec.upto aggPartsSpec)

/-- 'tidepoollaw05.AggKnown', WHERE WHAT IT READS IS OF BULK AT MOST 1048576: true; the input reads as it did. -/
def aggKnownUptoRow : OpenClaim := { program := "ytlehkjkpgmkbiaa", sum := "7875c1a712fb06c2fcf57aab2d205bf568d9218dc9755519c4ade960ddb53351", func := "tidepool/tidepoollaw05.AggKnown", spec := "aggKnown", unfollowed := true, recurses := true, apart := false, narrowed := true }
def AggKnownUptoSaid : Prop := aggKnownUptoRow.holds Try.pinned (OpenSpec.upto aggKnownSpec)

end Rows
end Go.Proofs.Ytlehkjkpgmkbiaa
