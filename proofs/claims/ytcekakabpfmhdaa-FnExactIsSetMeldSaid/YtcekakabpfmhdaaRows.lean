/-
  No cell of these rows narrows 'for every input' (looked for: loops, veiled, ifaces, maps, wideKeys, modest, calm, conditions, laid).
  DERIVED. THE GIVEN ROWS OF THIS SEAT. 12 by the template 'for every input the law returns true; each argument reads behind the call as it read before'; 0 by the template 'total and deterministic' (their statements: YtcekakabpfmhdaaTotals.lean).
  GIVEN WITH THE SEED: the statements are not yours to turn. If you find one false, say at which input.
  Laid BY PROGRAM, IN A SANDBOX (cutbox-rows.mjs): the forced cells as the released guide's own fill.sh prints them over the translation 4fdaa978d3adede3… (all of the seat's roots in one cut). By AI agents, Wed Nov 11 2026. No macro, syntax, notation, axiom, sorry.
-/
import Derived.Test.YtcekakabpfmhdaaChecked
import GoSem.Claim
import GoSem.ClaimJoined
import GoSem.ClaimMapViews
import Derived.JoinedTies
import Derived.KernelRfl
namespace Go.Proofs.Ytcekakabpfmhdaa
/- THE CELL 'sum', in the pinned program and in every row, IS THE sha256 OF THE DUMP (.gsa) THAT YtcekakabpfmhdaaProg.lean LOADS. Nothing in Lean hashes anything: it is a label: what it is worth is what the hold of that sum in a sandbox is worth. -/
noncomputable def Try.pinned : Pinned := { name := "ytcekakabpfmhdaa", sum := "4fdaa978d3adede3b8359cea15ef4ffa7f59c4cfdf29b42f96e6daedc7eb1365", checked := Try.checked }
namespace Rows
def none {H : Type} : Left H := { results := [], args := [] }

/-- 'laws.FnExactKindName': WHATEVER THE INPUT: true; the input reads as it did. -/
def fnExactKindNameSpec : ChangeSpec := { name := "fnExactKindName", fn := fun _ => fun
  | [d] => { results := [.lit (.bool true)], args := [d] }
  | _ => none }
def fnExactKindNameRow : OpenClaim := { program := "ytcekakabpfmhdaa", sum := "4fdaa978d3adede3b8359cea15ef4ffa7f59c4cfdf29b42f96e6daedc7eb1365", func := "loop.example/g03010/laws.FnExactKindName", spec := "fnExactKindName", apart := false }
def FnExactKindNameSaid : Prop := fnExactKindNameRow.holds Try.pinned (OpenSpec.ofChange fnExactKindNameSpec)

/-- ITS FALSE NEIGHBOUR: 'it returns false'. Refute it at one input. -/
def fnExactKindNameWrong : ChangeSpec := { name := "fnExactKindName", fn := fun _ => fun
  | [d] => { results := [.lit (.bool false)], args := [d] }
  | _ => none }
def FnExactKindNameWrongFalsely : Prop := fnExactKindNameRow.holds Try.pinned (OpenSpec.ofChange fnExactKindNameWrong)

/-- 'laws.FnExactHighBid': WHATEVER THE INPUT: true; the input reads as it did. -/
def fnExactHighBidSpec : ChangeSpec := { name := "fnExactHighBid", fn := fun _ => fun
  | [d] => { results := [.lit (.bool true)], args := [d] }
  | _ => none }
def fnExactHighBidRow : OpenClaim := { program := "ytcekakabpfmhdaa", sum := "4fdaa978d3adede3b8359cea15ef4ffa7f59c4cfdf29b42f96e6daedc7eb1365", func := "loop.example/g03010/laws.FnExactHighBid", spec := "fnExactHighBid", apart := false }
def FnExactHighBidSaid : Prop := fnExactHighBidRow.holds Try.pinned (OpenSpec.ofChange fnExactHighBidSpec)

/-- ITS FALSE NEIGHBOUR: 'it returns false'. Refute it at one input. -/
def fnExactHighBidWrong : ChangeSpec := { name := "fnExactHighBid", fn := fun _ => fun
  | [d] => { results := [.lit (.bool false)], args := [d] }
  | _ => none }
def FnExactHighBidWrongFalsely : Prop := fnExactHighBidRow.holds Try.pinned (OpenSpec.ofChange fnExactHighBidWrong)

/-- 'laws.FnExactValueOf': WHATEVER THE INPUT: true; the input reads as it did. -/
def fnExactValueOfSpec : ChangeSpec := { name := "fnExactValueOf", fn := fun _ => fun
  | [d] => { results := [.lit (.bool true)], args := [d] }
  | _ => none }
def fnExactValueOfRow : OpenClaim := { program := "ytcekakabpfmhdaa", sum := "4fdaa978d3adede3b8359cea15ef4ffa7f59c4cfdf29b42f96e6daedc7eb1365", func := "loop.example/g03010/laws.FnExactValueOf", spec := "fnExactValueOf", apart := false }
def FnExactValueOfSaid : Prop := fnExactValueOfRow.holds Try.pinned (OpenSpec.ofChange fnExactValueOfSpec)

/-- ITS FALSE NEIGHBOUR: 'it returns false'. Refute it at one input. -/
def fnExactValueOfWrong : ChangeSpec := { name := "fnExactValueOf", fn := fun _ => fun
  | [d] => { results := [.lit (.bool false)], args := [d] }
  | _ => none }
def FnExactValueOfWrongFalsely : Prop := fnExactValueOfRow.holds Try.pinned (OpenSpec.ofChange fnExactValueOfWrong)

/-- 'laws.FnExactBeats': WHATEVER THE INPUT: true; the input reads as it did. -/
def fnExactBeatsSpec : ChangeSpec := { name := "fnExactBeats", fn := fun _ => fun
  | [d1, d2, d3] => { results := [.lit (.bool true)], args := [d1, d2, d3] }
  | _ => none }
def fnExactBeatsRow : OpenClaim := { program := "ytcekakabpfmhdaa", sum := "4fdaa978d3adede3b8359cea15ef4ffa7f59c4cfdf29b42f96e6daedc7eb1365", func := "loop.example/g03010/laws.FnExactBeats", spec := "fnExactBeats", apart := false }
def FnExactBeatsSaid : Prop := fnExactBeatsRow.holds Try.pinned (OpenSpec.ofChange fnExactBeatsSpec)

/-- ITS FALSE NEIGHBOUR: 'it returns false'. Refute it at one input. -/
def fnExactBeatsWrong : ChangeSpec := { name := "fnExactBeats", fn := fun _ => fun
  | [d1, d2, d3] => { results := [.lit (.bool false)], args := [d1, d2, d3] }
  | _ => none }
def FnExactBeatsWrongFalsely : Prop := fnExactBeatsRow.holds Try.pinned (OpenSpec.ofChange fnExactBeatsWrong)

/-- 'laws.FnExactCallsEnd': WHATEVER THE INPUT: true; the input reads as it did. -/
def fnExactCallsEndSpec : ChangeSpec := { name := "fnExactCallsEnd", fn := fun _ => fun
  | [d1, d2] => { results := [.lit (.bool true)], args := [d1, d2] }
  | _ => none }
def fnExactCallsEndRow : OpenClaim := { program := "ytcekakabpfmhdaa", sum := "4fdaa978d3adede3b8359cea15ef4ffa7f59c4cfdf29b42f96e6daedc7eb1365", func := "loop.example/g03010/laws.FnExactCallsEnd", spec := "fnExactCallsEnd", apart := false }
def FnExactCallsEndSaid : Prop := fnExactCallsEndRow.holds Try.pinned (OpenSpec.ofChange fnExactCallsEndSpec)

/-- ITS FALSE NEIGHBOUR: 'it returns false'. Refute it at one input. -/
def fnExactCallsEndWrong : ChangeSpec := { name := "fnExactCallsEnd", fn := fun _ => fun
  | [d1, d2] => { results := [.lit (.bool false)], args := [d1, d2] }
  | _ => none }
def FnExactCallsEndWrongFalsely : Prop := fnExactCallsEndRow.holds Try.pinned (OpenSpec.ofChange fnExactCallsEndWrong)

/-- 'laws.FnExactIsRound': WHATEVER THE INPUT: true; the input reads as it did. -/
def fnExactIsRoundSpec : ChangeSpec := { name := "fnExactIsRound", fn := fun _ => fun
  | [d1, d2] => { results := [.lit (.bool true)], args := [d1, d2] }
  | _ => none }
def fnExactIsRoundRow : OpenClaim := { program := "ytcekakabpfmhdaa", sum := "4fdaa978d3adede3b8359cea15ef4ffa7f59c4cfdf29b42f96e6daedc7eb1365", func := "loop.example/g03010/laws.FnExactIsRound", spec := "fnExactIsRound", apart := false }
def FnExactIsRoundSaid : Prop := fnExactIsRoundRow.holds Try.pinned (OpenSpec.ofChange fnExactIsRoundSpec)

/-- ITS FALSE NEIGHBOUR: 'it returns false'. Refute it at one input. -/
def fnExactIsRoundWrong : ChangeSpec := { name := "fnExactIsRound", fn := fun _ => fun
  | [d1, d2] => { results := [.lit (.bool false)], args := [d1, d2] }
  | _ => none }
def FnExactIsRoundWrongFalsely : Prop := fnExactIsRoundRow.holds Try.pinned (OpenSpec.ofChange fnExactIsRoundWrong)

/-- 'laws.FnTricks': WHATEVER THE INPUT: true; the input reads as it did. -/
def fnTricksSpec : ChangeSpec := { name := "fnTricks", fn := fun _ => fun
  | [d] => { results := [.lit (.bool true)], args := [d] }
  | _ => none }
def fnTricksRow : OpenClaim := { program := "ytcekakabpfmhdaa", sum := "4fdaa978d3adede3b8359cea15ef4ffa7f59c4cfdf29b42f96e6daedc7eb1365", func := "loop.example/g03010/laws.FnTricks", spec := "fnTricks", apart := false }
def FnTricksSaid : Prop := fnTricksRow.holds Try.pinned (OpenSpec.ofChange fnTricksSpec)

/-- ITS FALSE NEIGHBOUR: 'it returns false'. Refute it at one input. -/
def fnTricksWrong : ChangeSpec := { name := "fnTricks", fn := fun _ => fun
  | [d] => { results := [.lit (.bool false)], args := [d] }
  | _ => none }
def FnTricksWrongFalsely : Prop := fnTricksRow.holds Try.pinned (OpenSpec.ofChange fnTricksWrong)

/-- 'laws.FnExactIsPattern': WHATEVER THE INPUT: true; the input reads as it did. -/
def fnExactIsPatternSpec : ChangeSpec := { name := "fnExactIsPattern", fn := fun _ => fun
  | [d] => { results := [.lit (.bool true)], args := [d] }
  | _ => none }
def fnExactIsPatternRow : OpenClaim := { program := "ytcekakabpfmhdaa", sum := "4fdaa978d3adede3b8359cea15ef4ffa7f59c4cfdf29b42f96e6daedc7eb1365", func := "loop.example/g03010/laws.FnExactIsPattern", spec := "fnExactIsPattern", apart := false }
def FnExactIsPatternSaid : Prop := fnExactIsPatternRow.holds Try.pinned (OpenSpec.ofChange fnExactIsPatternSpec)

/-- ITS FALSE NEIGHBOUR: 'it returns false'. Refute it at one input. -/
def fnExactIsPatternWrong : ChangeSpec := { name := "fnExactIsPattern", fn := fun _ => fun
  | [d] => { results := [.lit (.bool false)], args := [d] }
  | _ => none }
def FnExactIsPatternWrongFalsely : Prop := fnExactIsPatternRow.holds Try.pinned (OpenSpec.ofChange fnExactIsPatternWrong)

/-- 'laws.FnExactTopOf': WHATEVER THE INPUT: true; the input reads as it did. -/
def fnExactTopOfSpec : ChangeSpec := { name := "fnExactTopOf", fn := fun _ => fun
  | [d] => { results := [.lit (.bool true)], args := [d] }
  | _ => none }
def fnExactTopOfRow : OpenClaim := { program := "ytcekakabpfmhdaa", sum := "4fdaa978d3adede3b8359cea15ef4ffa7f59c4cfdf29b42f96e6daedc7eb1365", func := "loop.example/g03010/laws.FnExactTopOf", spec := "fnExactTopOf", apart := false }
def FnExactTopOfSaid : Prop := fnExactTopOfRow.holds Try.pinned (OpenSpec.ofChange fnExactTopOfSpec)

/-- ITS FALSE NEIGHBOUR: 'it returns false'. Refute it at one input. -/
def fnExactTopOfWrong : ChangeSpec := { name := "fnExactTopOf", fn := fun _ => fun
  | [d] => { results := [.lit (.bool false)], args := [d] }
  | _ => none }
def FnExactTopOfWrongFalsely : Prop := fnExactTopOfRow.holds Try.pinned (OpenSpec.ofChange fnExactTopOfWrong)

/-- 'laws.FnExactTrickPoints': WHATEVER THE INPUT: true; the input reads as it did. -/
def fnExactTrickPointsSpec : ChangeSpec := { name := "fnExactTrickPoints", fn := fun _ => fun
  | [d] => { results := [.lit (.bool true)], args := [d] }
  | _ => none }
def fnExactTrickPointsRow : OpenClaim := { program := "ytcekakabpfmhdaa", sum := "4fdaa978d3adede3b8359cea15ef4ffa7f59c4cfdf29b42f96e6daedc7eb1365", func := "loop.example/g03010/laws.FnExactTrickPoints", spec := "fnExactTrickPoints", apart := false }
def FnExactTrickPointsSaid : Prop := fnExactTrickPointsRow.holds Try.pinned (OpenSpec.ofChange fnExactTrickPointsSpec)

/-- ITS FALSE NEIGHBOUR: 'it returns false'. Refute it at one input. -/
def fnExactTrickPointsWrong : ChangeSpec := { name := "fnExactTrickPoints", fn := fun _ => fun
  | [d] => { results := [.lit (.bool false)], args := [d] }
  | _ => none }
def FnExactTrickPointsWrongFalsely : Prop := fnExactTrickPointsRow.holds Try.pinned (OpenSpec.ofChange fnExactTrickPointsWrong)

/-- 'laws.FnExactFromTricks': WHATEVER THE INPUT: true; the input reads as it did. -/
def fnExactFromTricksSpec : ChangeSpec := { name := "fnExactFromTricks", fn := fun _ => fun
  | [d] => { results := [.lit (.bool true)], args := [d] }
  | _ => none }
def fnExactFromTricksRow : OpenClaim := { program := "ytcekakabpfmhdaa", sum := "4fdaa978d3adede3b8359cea15ef4ffa7f59c4cfdf29b42f96e6daedc7eb1365", func := "loop.example/g03010/laws.FnExactFromTricks", spec := "fnExactFromTricks", apart := false }
def FnExactFromTricksSaid : Prop := fnExactFromTricksRow.holds Try.pinned (OpenSpec.ofChange fnExactFromTricksSpec)

/-- ITS FALSE NEIGHBOUR: 'it returns false'. Refute it at one input. -/
def fnExactFromTricksWrong : ChangeSpec := { name := "fnExactFromTricks", fn := fun _ => fun
  | [d] => { results := [.lit (.bool false)], args := [d] }
  | _ => none }
def FnExactFromTricksWrongFalsely : Prop := fnExactFromTricksRow.holds Try.pinned (OpenSpec.ofChange fnExactFromTricksWrong)

/-- 'laws.FnExactIsSetMeld': WHATEVER THE INPUT: true; the input reads as it did. -/
def fnExactIsSetMeldSpec : ChangeSpec := { name := "fnExactIsSetMeld", fn := fun _ => fun
  | [d] => { results := [.lit (.bool true)], args := [d] }
  | _ => none }
def fnExactIsSetMeldRow : OpenClaim := { program := "ytcekakabpfmhdaa", sum := "4fdaa978d3adede3b8359cea15ef4ffa7f59c4cfdf29b42f96e6daedc7eb1365", func := "loop.example/g03010/laws.FnExactIsSetMeld", spec := "fnExactIsSetMeld", apart := false }
def FnExactIsSetMeldSaid : Prop := fnExactIsSetMeldRow.holds Try.pinned (OpenSpec.ofChange fnExactIsSetMeldSpec)

/-- ITS FALSE NEIGHBOUR: 'it returns false'. Refute it at one input. -/
def fnExactIsSetMeldWrong : ChangeSpec := { name := "fnExactIsSetMeld", fn := fun _ => fun
  | [d] => { results := [.lit (.bool false)], args := [d] }
  | _ => none }
def FnExactIsSetMeldWrongFalsely : Prop := fnExactIsSetMeldRow.holds Try.pinned (OpenSpec.ofChange fnExactIsSetMeldWrong)

/- THE SECOND FORM. 'bulk': how many values and letters a reading holds, each counted each time it is reached (what is shared counts as often as it is met; a slice's spare places count too). A statement '..UptoSaid' is the law's where the arguments, and the package variables that the reading takes, are together of bulk at most 1048576: NARROWER than '..Said'. Prove '..Said' where nothing that the law and all that it calls make is longer than what came in: it says more and counts as full. Else prove '..UptoSaid'. A law counts once. -/
mutual
def uptoBulk {H : Type} : DataW H → Nat
  | .lit (.string bytes) => bytes.length + 1
  | .lit _ => 1
  | .nil => 1
  | .ptr d => uptoBulk d + 1
  | .slice elems spare => uptoBulkAll elems + uptoBulkAll spare + 1
  | .agg parts => uptoBulkAll parts + 1
  | .iface _ d => uptoBulk d + 1
  | .map entries => uptoBulkEntries entries + 1
  | .held _ => 1
def uptoBulkAll {H : Type} : List (DataW H) → Nat
  | [] => 0
  | d :: r => uptoBulk d + uptoBulkAll r
def uptoBulkEntries {H : Type} : List (Lit × DataW H) → Nat
  | [] => 0
  | x :: r => uptoBulkEntry x + uptoBulkEntries r
def uptoBulkEntry {H : Type} : Lit × DataW H → Nat
  | (.string bytes, d) => bytes.length + uptoBulk d + 1
  | (_, d) => uptoBulk d + 1
 end
def uptoSmall : (H : Type) → List (DataW H) → Bool := fun _ ds => decide (uptoBulkAll ds ≤ 1048576)
def OpenSpec.upto (s : _root_.Go.ChangeSpec) : _root_.Go.OpenSpec := { _root_.Go.OpenSpec.ofChange s with cond := some uptoSmall }

/-- 'laws.FnExactKindName', WHERE WHAT IT READS IS OF BULK AT MOST 1048576: true; the input reads as it did. -/
def fnExactKindNameUptoRow : OpenClaim := { program := "ytcekakabpfmhdaa", sum := "4fdaa978d3adede3b8359cea15ef4ffa7f59c4cfdf29b42f96e6daedc7eb1365", func := "loop.example/g03010/laws.FnExactKindName", spec := "fnExactKindName", apart := false, narrowed := true }
def FnExactKindNameUptoSaid : Prop := fnExactKindNameUptoRow.holds Try.pinned (OpenSpec.upto fnExactKindNameSpec)

/-- 'laws.FnExactHighBid', WHERE WHAT IT READS IS OF BULK AT MOST 1048576: true; the input reads as it did. -/
def fnExactHighBidUptoRow : OpenClaim := { program := "ytcekakabpfmhdaa", sum := "4fdaa978d3adede3b8359cea15ef4ffa7f59c4cfdf29b42f96e6daedc7eb1365", func := "loop.example/g03010/laws.FnExactHighBid", spec := "fnExactHighBid", apart := false, narrowed := true }
def FnExactHighBidUptoSaid : Prop := fnExactHighBidUptoRow.holds Try.pinned (OpenSpec.upto fnExactHighBidSpec)

/-- 'laws.FnExactValueOf', WHERE WHAT IT READS IS OF BULK AT MOST 1048576: true; the input reads as it did. -/
def fnExactValueOfUptoRow : OpenClaim := { program := "ytcekakabpfmhdaa", sum := "4fdaa978d3adede3b8359cea15ef4ffa7f59c4cfdf29b42f96e6daedc7eb1365", func := "loop.example/g03010/laws.FnExactValueOf", spec := "fnExactValueOf", apart := false, narrowed := true }
def FnExactValueOfUptoSaid : Prop := fnExactValueOfUptoRow.holds Try.pinned (OpenSpec.upto fnExactValueOfSpec)

/-- 'laws.FnExactBeats', WHERE WHAT IT READS IS OF BULK AT MOST 1048576: true; the input reads as it did. -/
def fnExactBeatsUptoRow : OpenClaim := { program := "ytcekakabpfmhdaa", sum := "4fdaa978d3adede3b8359cea15ef4ffa7f59c4cfdf29b42f96e6daedc7eb1365", func := "loop.example/g03010/laws.FnExactBeats", spec := "fnExactBeats", apart := false, narrowed := true }
def FnExactBeatsUptoSaid : Prop := fnExactBeatsUptoRow.holds Try.pinned (OpenSpec.upto fnExactBeatsSpec)

/-- 'laws.FnExactCallsEnd', WHERE WHAT IT READS IS OF BULK AT MOST 1048576: true; the input reads as it did. -/
def fnExactCallsEndUptoRow : OpenClaim := { program := "ytcekakabpfmhdaa", sum := "4fdaa978d3adede3b8359cea15ef4ffa7f59c4cfdf29b42f96e6daedc7eb1365", func := "loop.example/g03010/laws.FnExactCallsEnd", spec := "fnExactCallsEnd", apart := false, narrowed := true }
def FnExactCallsEndUptoSaid : Prop := fnExactCallsEndUptoRow.holds Try.pinned (OpenSpec.upto fnExactCallsEndSpec)

/-- 'laws.FnExactIsRound', WHERE WHAT IT READS IS OF BULK AT MOST 1048576: true; the input reads as it did. -/
def fnExactIsRoundUptoRow : OpenClaim := { program := "ytcekakabpfmhdaa", sum := "4fdaa978d3adede3b8359cea15ef4ffa7f59c4cfdf29b42f96e6daedc7eb1365", func := "loop.example/g03010/laws.FnExactIsRound", spec := "fnExactIsRound", apart := false, narrowed := true }
def FnExactIsRoundUptoSaid : Prop := fnExactIsRoundUptoRow.holds Try.pinned (OpenSpec.upto fnExactIsRoundSpec)

/-- 'laws.FnTricks', WHERE WHAT IT READS IS OF BULK AT MOST 1048576: true; the input reads as it did. -/
def fnTricksUptoRow : OpenClaim := { program := "ytcekakabpfmhdaa", sum := "4fdaa978d3adede3b8359cea15ef4ffa7f59c4cfdf29b42f96e6daedc7eb1365", func := "loop.example/g03010/laws.FnTricks", spec := "fnTricks", apart := false, narrowed := true }
def FnTricksUptoSaid : Prop := fnTricksUptoRow.holds Try.pinned (OpenSpec.upto fnTricksSpec)

/-- 'laws.FnExactIsPattern', WHERE WHAT IT READS IS OF BULK AT MOST 1048576: true; the input reads as it did. -/
def fnExactIsPatternUptoRow : OpenClaim := { program := "ytcekakabpfmhdaa", sum := "4fdaa978d3adede3b8359cea15ef4ffa7f59c4cfdf29b42f96e6daedc7eb1365", func := "loop.example/g03010/laws.FnExactIsPattern", spec := "fnExactIsPattern", apart := false, narrowed := true }
def FnExactIsPatternUptoSaid : Prop := fnExactIsPatternUptoRow.holds Try.pinned (OpenSpec.upto fnExactIsPatternSpec)

/-- 'laws.FnExactTopOf', WHERE WHAT IT READS IS OF BULK AT MOST 1048576: true; the input reads as it did. -/
def fnExactTopOfUptoRow : OpenClaim := { program := "ytcekakabpfmhdaa", sum := "4fdaa978d3adede3b8359cea15ef4ffa7f59c4cfdf29b42f96e6daedc7eb1365", func := "loop.example/g03010/laws.FnExactTopOf", spec := "fnExactTopOf", apart := false, narrowed := true }
def FnExactTopOfUptoSaid : Prop := fnExactTopOfUptoRow.holds Try.pinned (OpenSpec.upto fnExactTopOfSpec)

/-- 'laws.FnExactTrickPoints', WHERE WHAT IT READS IS OF BULK AT MOST 1048576: true; the input reads as it did. -/
def fnExactTrickPointsUptoRow : OpenClaim := { program := "ytcekakabpfmhdaa", sum := "4fdaa978d3adede3b8359cea15ef4ffa7f59c4cfdf29b42f96e6daedc7eb1365", func := "loop.example/g03010/laws.FnExactTrickPoints", spec := "fnExactTrickPoints", apart := false, narrowed := true }
def FnExactTrickPointsUptoSaid : Prop := fnExactTrickPointsUptoRow.holds Try.pinned (OpenSpec.upto fnExactTrickPointsSpec)

/-- 'laws.FnExactFromTricks', WHERE WHAT IT READS IS OF BULK AT MOST 1048576: true; the input reads as it did. -/
def fnExactFromTricksUptoRow : OpenClaim := { program := "ytcekakabpfmhdaa", sum := "4fdaa978d3adede3b8359cea15ef4ffa7f59c4cfdf29b42f96e6daedc7eb1365", func := "loop.example/g03010/laws.FnExactFromTricks", spec := "fnExactFromTricks", apart := false, narrowed := true }
def FnExactFromTricksUptoSaid : Prop := fnExactFromTricksUptoRow.holds Try.pinned (OpenSpec.upto fnExactFromTricksSpec)

/-- 'laws.FnExactIsSetMeld', WHERE WHAT IT READS IS OF BULK AT MOST 1048576: true; the input reads as it did. -/
def fnExactIsSetMeldUptoRow : OpenClaim := { program := "ytcekakabpfmhdaa", sum := "4fdaa978d3adede3b8359cea15ef4ffa7f59c4cfdf29b42f96e6daedc7eb1365", func := "loop.example/g03010/laws.FnExactIsSetMeld", spec := "fnExactIsSetMeld", apart := false, narrowed := true }
def FnExactIsSetMeldUptoSaid : Prop := fnExactIsSetMeldUptoRow.holds Try.pinned (OpenSpec.upto fnExactIsSetMeldSpec)

end Rows
end Go.Proofs.Ytcekakabpfmhdaa
