/-
  No cell of these rows narrows 'for every input' (looked for: loops, veiled, ifaces, maps, wideKeys, modest, calm, conditions, laid).
  DERIVED. THE GIVEN ROWS OF THIS SEAT. 12 by the template 'for every input the law returns true; each argument reads behind the call as it read before'; 0 by the template 'total and deterministic' (their statements: YtcegnlconafikaaTotals.lean).
  GIVEN WITH THE SEED: the statements are not yours to turn. If you find one false, say at which input.
  Laid BY PROGRAM, IN A SANDBOX (cutbox-rows.mjs): the forced cells as the released guide's own fill.sh prints them over the translation fe3084a9052a9bb1… (all of the seat's roots in one cut). By AI agents, Wed Nov 11 2026. No macro, syntax, notation, axiom, sorry.
-/
import Derived.Test.YtcegnlconafikaaChecked
import GoSem.Claim
import GoSem.ClaimJoined
import GoSem.ClaimMapViews
import Derived.JoinedTies
import Derived.KernelRfl
namespace Go.Proofs.Ytcegnlconafikaa
/- THE CELL 'sum', in the pinned program and in every row, IS THE sha256 OF THE DUMP (.gsa) THAT YtcegnlconafikaaProg.lean LOADS. Nothing in Lean hashes anything: it is a label: what it is worth is what the hold of that sum in a sandbox is worth. -/
noncomputable def Try.pinned : Pinned := { name := "ytcegnlconafikaa", sum := "fe3084a9052a9bb1bce7943b4b41fe0f741972eded24ee289ec6fc5eb447cc46", checked := Try.checked }
namespace Rows
def none {H : Type} : Left H := { results := [], args := [] }

/-- 'laws.FnExactTotalOf': WHATEVER THE INPUT: true; the input reads as it did. -/
def fnExactTotalOfSpec : ChangeSpec := { name := "fnExactTotalOf", fn := fun _ => fun
  | [d1, d2, d3] => { results := [.lit (.bool true)], args := [d1, d2, d3] }
  | _ => none }
def fnExactTotalOfRow : OpenClaim := { program := "ytcegnlconafikaa", sum := "fe3084a9052a9bb1bce7943b4b41fe0f741972eded24ee289ec6fc5eb447cc46", func := "loop.example/g03010/laws.FnExactTotalOf", spec := "fnExactTotalOf", apart := false }
def FnExactTotalOfSaid : Prop := fnExactTotalOfRow.holds Try.pinned (OpenSpec.ofChange fnExactTotalOfSpec)

/-- ITS FALSE NEIGHBOUR: 'it returns false'. Refute it at one input. -/
def fnExactTotalOfWrong : ChangeSpec := { name := "fnExactTotalOf", fn := fun _ => fun
  | [d1, d2, d3] => { results := [.lit (.bool false)], args := [d1, d2, d3] }
  | _ => none }
def FnExactTotalOfWrongFalsely : Prop := fnExactTotalOfRow.holds Try.pinned (OpenSpec.ofChange fnExactTotalOfWrong)

/-- 'laws.FnExactLegalCalls': WHATEVER THE INPUT: true; the input reads as it did. -/
def fnExactLegalCallsSpec : ChangeSpec := { name := "fnExactLegalCalls", fn := fun _ => fun
  | [d1, d2] => { results := [.lit (.bool true)], args := [d1, d2] }
  | _ => none }
def fnExactLegalCallsRow : OpenClaim := { program := "ytcegnlconafikaa", sum := "fe3084a9052a9bb1bce7943b4b41fe0f741972eded24ee289ec6fc5eb447cc46", func := "loop.example/g03010/laws.FnExactLegalCalls", spec := "fnExactLegalCalls", apart := false }
def FnExactLegalCallsSaid : Prop := fnExactLegalCallsRow.holds Try.pinned (OpenSpec.ofChange fnExactLegalCallsSpec)

/-- ITS FALSE NEIGHBOUR: 'it returns false'. Refute it at one input. -/
def fnExactLegalCallsWrong : ChangeSpec := { name := "fnExactLegalCalls", fn := fun _ => fun
  | [d1, d2] => { results := [.lit (.bool false)], args := [d1, d2] }
  | _ => none }
def FnExactLegalCallsWrongFalsely : Prop := fnExactLegalCallsRow.holds Try.pinned (OpenSpec.ofChange fnExactLegalCallsWrong)

/-- 'laws.FnExactTurnOf': WHATEVER THE INPUT: true; the input reads as it did. -/
def fnExactTurnOfSpec : ChangeSpec := { name := "fnExactTurnOf", fn := fun _ => fun
  | [d] => { results := [.lit (.bool true)], args := [d] }
  | _ => none }
def fnExactTurnOfRow : OpenClaim := { program := "ytcegnlconafikaa", sum := "fe3084a9052a9bb1bce7943b4b41fe0f741972eded24ee289ec6fc5eb447cc46", func := "loop.example/g03010/laws.FnExactTurnOf", spec := "fnExactTurnOf", apart := false }
def FnExactTurnOfSaid : Prop := fnExactTurnOfRow.holds Try.pinned (OpenSpec.ofChange fnExactTurnOfSpec)

/-- ITS FALSE NEIGHBOUR: 'it returns false'. Refute it at one input. -/
def fnExactTurnOfWrong : ChangeSpec := { name := "fnExactTurnOf", fn := fun _ => fun
  | [d] => { results := [.lit (.bool false)], args := [d] }
  | _ => none }
def FnExactTurnOfWrongFalsely : Prop := fnExactTurnOfRow.holds Try.pinned (OpenSpec.ofChange fnExactTurnOfWrong)

/-- 'laws.FnExactParseHand': WHATEVER THE INPUT: true; the input reads as it did. -/
def fnExactParseHandSpec : ChangeSpec := { name := "fnExactParseHand", fn := fun _ => fun
  | [d] => { results := [.lit (.bool true)], args := [d] }
  | _ => none }
def fnExactParseHandRow : OpenClaim := { program := "ytcegnlconafikaa", sum := "fe3084a9052a9bb1bce7943b4b41fe0f741972eded24ee289ec6fc5eb447cc46", func := "loop.example/g03010/laws.FnExactParseHand", spec := "fnExactParseHand", inPlace := ["internal/bytealg.IndexByteString"], apart := false }
def FnExactParseHandSaid : Prop := fnExactParseHandRow.holds Try.pinned (OpenSpec.ofChange fnExactParseHandSpec)

/-- ITS FALSE NEIGHBOUR: 'it returns false'. Refute it at one input. -/
def fnExactParseHandWrong : ChangeSpec := { name := "fnExactParseHand", fn := fun _ => fun
  | [d] => { results := [.lit (.bool false)], args := [d] }
  | _ => none }
def FnExactParseHandWrongFalsely : Prop := fnExactParseHandRow.holds Try.pinned (OpenSpec.ofChange fnExactParseHandWrong)

/-- 'laws.FnExactAheadIn': WHATEVER THE INPUT: true; the input reads as it did. -/
def fnExactAheadInSpec : ChangeSpec := { name := "fnExactAheadIn", fn := fun _ => fun
  | [d1, d2] => { results := [.lit (.bool true)], args := [d1, d2] }
  | _ => none }
def fnExactAheadInRow : OpenClaim := { program := "ytcegnlconafikaa", sum := "fe3084a9052a9bb1bce7943b4b41fe0f741972eded24ee289ec6fc5eb447cc46", func := "loop.example/g03010/laws.FnExactAheadIn", spec := "fnExactAheadIn", apart := false }
def FnExactAheadInSaid : Prop := fnExactAheadInRow.holds Try.pinned (OpenSpec.ofChange fnExactAheadInSpec)

/-- ITS FALSE NEIGHBOUR: 'it returns false'. Refute it at one input. -/
def fnExactAheadInWrong : ChangeSpec := { name := "fnExactAheadIn", fn := fun _ => fun
  | [d1, d2] => { results := [.lit (.bool false)], args := [d1, d2] }
  | _ => none }
def FnExactAheadInWrongFalsely : Prop := fnExactAheadInRow.holds Try.pinned (OpenSpec.ofChange fnExactAheadInWrong)

/-- 'laws.FnExactMatches': WHATEVER THE INPUT: true; the input reads as it did. -/
def fnExactMatchesSpec : ChangeSpec := { name := "fnExactMatches", fn := fun _ => fun
  | [d1, d2] => { results := [.lit (.bool true)], args := [d1, d2] }
  | _ => none }
def fnExactMatchesRow : OpenClaim := { program := "ytcegnlconafikaa", sum := "fe3084a9052a9bb1bce7943b4b41fe0f741972eded24ee289ec6fc5eb447cc46", func := "loop.example/g03010/laws.FnExactMatches", spec := "fnExactMatches", apart := false }
def FnExactMatchesSaid : Prop := fnExactMatchesRow.holds Try.pinned (OpenSpec.ofChange fnExactMatchesSpec)

/-- ITS FALSE NEIGHBOUR: 'it returns false'. Refute it at one input. -/
def fnExactMatchesWrong : ChangeSpec := { name := "fnExactMatches", fn := fun _ => fun
  | [d1, d2] => { results := [.lit (.bool false)], args := [d1, d2] }
  | _ => none }
def FnExactMatchesWrongFalsely : Prop := fnExactMatchesRow.holds Try.pinned (OpenSpec.ofChange fnExactMatchesWrong)

/-- 'laws.FnExactChoices': WHATEVER THE INPUT: true; the input reads as it did. -/
def fnExactChoicesSpec : ChangeSpec := { name := "fnExactChoices", fn := fun _ => fun
  | [d1, d2] => { results := [.lit (.bool true)], args := [d1, d2] }
  | _ => none }
def fnExactChoicesRow : OpenClaim := { program := "ytcegnlconafikaa", sum := "fe3084a9052a9bb1bce7943b4b41fe0f741972eded24ee289ec6fc5eb447cc46", func := "loop.example/g03010/laws.FnExactChoices", spec := "fnExactChoices", apart := false }
def FnExactChoicesSaid : Prop := fnExactChoicesRow.holds Try.pinned (OpenSpec.ofChange fnExactChoicesSpec)

/-- ITS FALSE NEIGHBOUR: 'it returns false'. Refute it at one input. -/
def fnExactChoicesWrong : ChangeSpec := { name := "fnExactChoices", fn := fun _ => fun
  | [d1, d2] => { results := [.lit (.bool false)], args := [d1, d2] }
  | _ => none }
def FnExactChoicesWrongFalsely : Prop := fnExactChoicesRow.holds Try.pinned (OpenSpec.ofChange fnExactChoicesWrong)

/-- 'laws.FnExactIsFollowed': WHATEVER THE INPUT: true; the input reads as it did. -/
def fnExactIsFollowedSpec : ChangeSpec := { name := "fnExactIsFollowed", fn := fun _ => fun
  | [d1, d2, d3] => { results := [.lit (.bool true)], args := [d1, d2, d3] }
  | _ => none }
def fnExactIsFollowedRow : OpenClaim := { program := "ytcegnlconafikaa", sum := "fe3084a9052a9bb1bce7943b4b41fe0f741972eded24ee289ec6fc5eb447cc46", func := "loop.example/g03010/laws.FnExactIsFollowed", spec := "fnExactIsFollowed", apart := false }
def FnExactIsFollowedSaid : Prop := fnExactIsFollowedRow.holds Try.pinned (OpenSpec.ofChange fnExactIsFollowedSpec)

/-- ITS FALSE NEIGHBOUR: 'it returns false'. Refute it at one input. -/
def fnExactIsFollowedWrong : ChangeSpec := { name := "fnExactIsFollowed", fn := fun _ => fun
  | [d1, d2, d3] => { results := [.lit (.bool false)], args := [d1, d2, d3] }
  | _ => none }
def FnExactIsFollowedWrongFalsely : Prop := fnExactIsFollowedRow.holds Try.pinned (OpenSpec.ofChange fnExactIsFollowedWrong)

/-- 'laws.FnExactSuitsText': WHATEVER THE INPUT: true; the input reads as it did. -/
def fnExactSuitsTextSpec : ChangeSpec := { name := "fnExactSuitsText", fn := fun _ => fun
  | [d] => { results := [.lit (.bool true)], args := [d] }
  | _ => none }
def fnExactSuitsTextRow : OpenClaim := { program := "ytcegnlconafikaa", sum := "fe3084a9052a9bb1bce7943b4b41fe0f741972eded24ee289ec6fc5eb447cc46", func := "loop.example/g03010/laws.FnExactSuitsText", spec := "fnExactSuitsText", inPlace := ["internal/abi.NoEscape", "internal/bytealg.MakeNoZero"], apart := false }
def FnExactSuitsTextSaid : Prop := fnExactSuitsTextRow.holds Try.pinned (OpenSpec.ofChange fnExactSuitsTextSpec)

/-- ITS FALSE NEIGHBOUR: 'it returns false'. Refute it at one input. -/
def fnExactSuitsTextWrong : ChangeSpec := { name := "fnExactSuitsText", fn := fun _ => fun
  | [d] => { results := [.lit (.bool false)], args := [d] }
  | _ => none }
def FnExactSuitsTextWrongFalsely : Prop := fnExactSuitsTextRow.holds Try.pinned (OpenSpec.ofChange fnExactSuitsTextWrong)

/-- 'laws.FnExactAddRound': WHATEVER THE INPUT: true; the input reads as it did. -/
def fnExactAddRoundSpec : ChangeSpec := { name := "fnExactAddRound", fn := fun _ => fun
  | [d1, d2, d3] => { results := [.lit (.bool true)], args := [d1, d2, d3] }
  | _ => none }
def fnExactAddRoundRow : OpenClaim := { program := "ytcegnlconafikaa", sum := "fe3084a9052a9bb1bce7943b4b41fe0f741972eded24ee289ec6fc5eb447cc46", func := "loop.example/g03010/laws.FnExactAddRound", spec := "fnExactAddRound", apart := false }
def FnExactAddRoundSaid : Prop := fnExactAddRoundRow.holds Try.pinned (OpenSpec.ofChange fnExactAddRoundSpec)

/-- ITS FALSE NEIGHBOUR: 'it returns false'. Refute it at one input. -/
def fnExactAddRoundWrong : ChangeSpec := { name := "fnExactAddRound", fn := fun _ => fun
  | [d1, d2, d3] => { results := [.lit (.bool false)], args := [d1, d2, d3] }
  | _ => none }
def FnExactAddRoundWrongFalsely : Prop := fnExactAddRoundRow.holds Try.pinned (OpenSpec.ofChange fnExactAddRoundWrong)

/-- 'laws.FnExactCountMatches': WHATEVER THE INPUT: true; the input reads as it did. -/
def fnExactCountMatchesSpec : ChangeSpec := { name := "fnExactCountMatches", fn := fun _ => fun
  | [d1, d2] => { results := [.lit (.bool true)], args := [d1, d2] }
  | _ => none }
def fnExactCountMatchesRow : OpenClaim := { program := "ytcegnlconafikaa", sum := "fe3084a9052a9bb1bce7943b4b41fe0f741972eded24ee289ec6fc5eb447cc46", func := "loop.example/g03010/laws.FnExactCountMatches", spec := "fnExactCountMatches", apart := false }
def FnExactCountMatchesSaid : Prop := fnExactCountMatchesRow.holds Try.pinned (OpenSpec.ofChange fnExactCountMatchesSpec)

/-- ITS FALSE NEIGHBOUR: 'it returns false'. Refute it at one input. -/
def fnExactCountMatchesWrong : ChangeSpec := { name := "fnExactCountMatches", fn := fun _ => fun
  | [d1, d2] => { results := [.lit (.bool false)], args := [d1, d2] }
  | _ => none }
def FnExactCountMatchesWrongFalsely : Prop := fnExactCountMatchesRow.holds Try.pinned (OpenSpec.ofChange fnExactCountMatchesWrong)

/-- 'laws.FnDeals': WHATEVER THE INPUT: true; the input reads as it did. -/
def fnDealsSpec : ChangeSpec := { name := "fnDeals", fn := fun _ => fun
  | [d] => { results := [.lit (.bool true)], args := [d] }
  | _ => none }
def fnDealsRow : OpenClaim := { program := "ytcegnlconafikaa", sum := "fe3084a9052a9bb1bce7943b4b41fe0f741972eded24ee289ec6fc5eb447cc46", func := "loop.example/g03010/laws.FnDeals", spec := "fnDeals", apart := false }
def FnDealsSaid : Prop := fnDealsRow.holds Try.pinned (OpenSpec.ofChange fnDealsSpec)

/-- ITS FALSE NEIGHBOUR: 'it returns false'. Refute it at one input. -/
def fnDealsWrong : ChangeSpec := { name := "fnDeals", fn := fun _ => fun
  | [d] => { results := [.lit (.bool false)], args := [d] }
  | _ => none }
def FnDealsWrongFalsely : Prop := fnDealsRow.holds Try.pinned (OpenSpec.ofChange fnDealsWrong)

/- THE SECOND FORM. 'bulk': how many values and letters a reading holds, each counted each time it is reached (what is shared counts as often as it is met; a slice's spare places count too). A statement '..UptoSaid' is the law's where the arguments, and the package variables that the reading takes, are together of bulk at most 1048576: NARROWER than '..Said'. Prove '..Said' where nothing that the law and all that it calls make is longer than what came in: it says more and counts as full. Else prove '..UptoSaid'. A law counts once. -/
mutual
def uptoBulk {H : Type} : DataW H → Nat
  | .lit (.string bytes) => bytes.length + 1
  | .lit _ => 1
  | .nil => 1
  | .ptr d => uptoBulk d + 1
  | .slice elems spare => uptoBulkAll elems + uptoBulkAll spare + 1
  | .agg parts => uptoBulkAll parts + 1
  | .iface _ d => uptoBulk d + 1
  | .map entries => uptoBulkEntries entries + 1
  | .held _ => 1
def uptoBulkAll {H : Type} : List (DataW H) → Nat
  | [] => 0
  | d :: r => uptoBulk d + uptoBulkAll r
def uptoBulkEntries {H : Type} : List (Lit × DataW H) → Nat
  | [] => 0
  | x :: r => uptoBulkEntry x + uptoBulkEntries r
def uptoBulkEntry {H : Type} : Lit × DataW H → Nat
  | (.string bytes, d) => bytes.length + uptoBulk d + 1
  | (_, d) => uptoBulk d + 1
 end
def uptoSmall : (H : Type) → List (DataW H) → Bool := fun _ ds => decide (uptoBulkAll ds ≤ 1048576)
def OpenSpec.upto (s : _root_.Go.ChangeSpec) : _root_.Go.OpenSpec := { _root_.Go.OpenSpec.ofChange s with cond := some uptoSmall }

/-- 'laws.FnExactTotalOf', WHERE WHAT IT READS IS OF BULK AT MOST 1048576: true; the input reads as it did. -/
def fnExactTotalOfUptoRow : OpenClaim := { program := "ytcegnlconafikaa", sum := "fe3084a9052a9bb1bce7943b4b41fe0f741972eded24ee289ec6fc5eb447cc46", func := "loop.example/g03010/laws.FnExactTotalOf", spec := "fnExactTotalOf", apart := false, narrowed := true }
def FnExactTotalOfUptoSaid : Prop := fnExactTotalOfUptoRow.holds Try.pinned (OpenSpec.upto fnExactTotalOfSpec)

/-- 'laws.FnExactLegalCalls', WHERE WHAT IT READS IS OF BULK AT MOST 1048576: true; the input reads as it did. -/
def fnExactLegalCallsUptoRow : OpenClaim := { program := "ytcegnlconafikaa", sum := "fe3084a9052a9bb1bce7943b4b41fe0f741972eded24ee289ec6fc5eb447cc46", func := "loop.example/g03010/laws.FnExactLegalCalls", spec := "fnExactLegalCalls", apart := false, narrowed := true }
def FnExactLegalCallsUptoSaid : Prop := fnExactLegalCallsUptoRow.holds Try.pinned (OpenSpec.upto fnExactLegalCallsSpec)

/-- 'laws.FnExactTurnOf', WHERE WHAT IT READS IS OF BULK AT MOST 1048576: true; the input reads as it did. -/
def fnExactTurnOfUptoRow : OpenClaim := { program := "ytcegnlconafikaa", sum := "fe3084a9052a9bb1bce7943b4b41fe0f741972eded24ee289ec6fc5eb447cc46", func := "loop.example/g03010/laws.FnExactTurnOf", spec := "fnExactTurnOf", apart := false, narrowed := true }
def FnExactTurnOfUptoSaid : Prop := fnExactTurnOfUptoRow.holds Try.pinned (OpenSpec.upto fnExactTurnOfSpec)

/-- 'laws.FnExactParseHand', WHERE WHAT IT READS IS OF BULK AT MOST 1048576: true; the input reads as it did. -/
def fnExactParseHandUptoRow : OpenClaim := { program := "ytcegnlconafikaa", sum := "fe3084a9052a9bb1bce7943b4b41fe0f741972eded24ee289ec6fc5eb447cc46", func := "loop.example/g03010/laws.FnExactParseHand", spec := "fnExactParseHand", inPlace := ["internal/bytealg.IndexByteString"], apart := false, narrowed := true }
def FnExactParseHandUptoSaid : Prop := fnExactParseHandUptoRow.holds Try.pinned (OpenSpec.upto fnExactParseHandSpec)

/-- 'laws.FnExactAheadIn', WHERE WHAT IT READS IS OF BULK AT MOST 1048576: true; the input reads as it did. -/
def fnExactAheadInUptoRow : OpenClaim := { program := "ytcegnlconafikaa", sum := "fe3084a9052a9bb1bce7943b4b41fe0f741972eded24ee289ec6fc5eb447cc46", func := "loop.example/g03010/laws.FnExactAheadIn", spec := "fnExactAheadIn", apart := false, narrowed := true }
def FnExactAheadInUptoSaid : Prop := fnExactAheadInUptoRow.holds Try.pinned (OpenSpec.upto fnExactAheadInSpec)

/-- 'laws.FnExactMatches', WHERE WHAT IT READS IS OF BULK AT MOST 1048576: true; the input reads as it did. -/
def fnExactMatchesUptoRow : OpenClaim := { program := "ytcegnlconafikaa", sum := "fe3084a9052a9bb1bce7943b4b41fe0f741972eded24ee289ec6fc5eb447cc46", func := "loop.example/g03010/laws.FnExactMatches", spec := "fnExactMatches", apart := false, narrowed := true }
def FnExactMatchesUptoSaid : Prop := fnExactMatchesUptoRow.holds Try.pinned (OpenSpec.upto fnExactMatchesSpec)

/-- 'laws.FnExactChoices', WHERE WHAT IT READS IS OF BULK AT MOST 1048576: true; the input reads as it did. -/
def fnExactChoicesUptoRow : OpenClaim := { program := "ytcegnlconafikaa", sum := "fe3084a9052a9bb1bce7943b4b41fe0f741972eded24ee289ec6fc5eb447cc46", func := "loop.example/g03010/laws.FnExactChoices", spec := "fnExactChoices", apart := false, narrowed := true }
def FnExactChoicesUptoSaid : Prop := fnExactChoicesUptoRow.holds Try.pinned (OpenSpec.upto fnExactChoicesSpec)

/-- 'laws.FnExactIsFollowed', WHERE WHAT IT READS IS OF BULK AT MOST 1048576: true; the input reads as it did. -/
def fnExactIsFollowedUptoRow : OpenClaim := { program := "ytcegnlconafikaa", sum := "fe3084a9052a9bb1bce7943b4b41fe0f741972eded24ee289ec6fc5eb447cc46", func := "loop.example/g03010/laws.FnExactIsFollowed", spec := "fnExactIsFollowed", apart := false, narrowed := true }
def FnExactIsFollowedUptoSaid : Prop := fnExactIsFollowedUptoRow.holds Try.pinned (OpenSpec.upto fnExactIsFollowedSpec)

/-- 'laws.FnExactSuitsText', WHERE WHAT IT READS IS OF BULK AT MOST 1048576: true; the input reads as it did. -/
def fnExactSuitsTextUptoRow : OpenClaim := { program := "ytcegnlconafikaa", sum := "fe3084a9052a9bb1bce7943b4b41fe0f741972eded24ee289ec6fc5eb447cc46", func := "loop.example/g03010/laws.FnExactSuitsText", spec := "fnExactSuitsText", inPlace := ["internal/abi.NoEscape", "internal/bytealg.MakeNoZero"], apart := false, narrowed := true }
def FnExactSuitsTextUptoSaid : Prop := fnExactSuitsTextUptoRow.holds Try.pinned (OpenSpec.upto fnExactSuitsTextSpec)

/-- 'laws.FnExactAddRound', WHERE WHAT IT READS IS OF BULK AT MOST 1048576: true; the input reads as it did. -/
def fnExactAddRoundUptoRow : OpenClaim := { program := "ytcegnlconafikaa", sum := "fe3084a9052a9bb1bce7943b4b41fe0f741972eded24ee289ec6fc5eb447cc46", func := "loop.example/g03010/laws.FnExactAddRound", spec := "fnExactAddRound", apart := false, narrowed := true }
def FnExactAddRoundUptoSaid : Prop := fnExactAddRoundUptoRow.holds Try.pinned (OpenSpec.upto fnExactAddRoundSpec)

/-- 'laws.FnExactCountMatches', WHERE WHAT IT READS IS OF BULK AT MOST 1048576: true; the input reads as it did. -/
def fnExactCountMatchesUptoRow : OpenClaim := { program := "ytcegnlconafikaa", sum := "fe3084a9052a9bb1bce7943b4b41fe0f741972eded24ee289ec6fc5eb447cc46", func := "loop.example/g03010/laws.FnExactCountMatches", spec := "fnExactCountMatches", apart := false, narrowed := true }
def FnExactCountMatchesUptoSaid : Prop := fnExactCountMatchesUptoRow.holds Try.pinned (OpenSpec.upto fnExactCountMatchesSpec)

/-- 'laws.FnDeals', WHERE WHAT IT READS IS OF BULK AT MOST 1048576: true; the input reads as it did. -/
def fnDealsUptoRow : OpenClaim := { program := "ytcegnlconafikaa", sum := "fe3084a9052a9bb1bce7943b4b41fe0f741972eded24ee289ec6fc5eb447cc46", func := "loop.example/g03010/laws.FnDeals", spec := "fnDeals", apart := false, narrowed := true }
def FnDealsUptoSaid : Prop := fnDealsUptoRow.holds Try.pinned (OpenSpec.upto fnDealsSpec)

end Rows
end Go.Proofs.Ytcegnlconafikaa
