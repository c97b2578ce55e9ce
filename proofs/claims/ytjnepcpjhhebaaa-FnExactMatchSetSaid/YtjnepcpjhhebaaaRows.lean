/-
  No cell of these rows narrows 'for every input' (looked for: loops, veiled, ifaces, maps, wideKeys, modest, calm, conditions, laid).
  DERIVED. THE GIVEN ROWS OF THIS SEAT. 12 by the template 'for every input the law returns true; each argument reads behind the call as it read before'; 0 by the template 'total and deterministic' (their statements: YtjnepcpjhhebaaaTotals.lean).
  GIVEN WITH THE SEED: the statements are not yours to turn. If you find one false, say at which input.
  Laid BY PROGRAM, IN A SANDBOX (cutbox-rows.mjs): the forced cells as the released guide's own fill.sh prints them over the translation c0b93fc4bdb73b79… (all of the seat's roots in one cut). By AI agents, Wed Nov 11 2026. No macro, syntax, notation, axiom, sorry.
-/
import Derived.Test.YtjnepcpjhhebaaaChecked
import GoSem.Claim
import GoSem.ClaimJoined
import GoSem.ClaimMapViews
import Derived.JoinedTies
import Derived.KernelRfl
namespace Go.Proofs.Ytjnepcpjhhebaaa
/- THE CELL 'sum', in the pinned program and in every row, IS THE sha256 OF THE DUMP (.gsa) THAT YtjnepcpjhhebaaaProg.lean LOADS. Nothing in Lean hashes anything: it is a label: what it is worth is what the hold of that sum in a sandbox is worth. -/
noncomputable def Try.pinned : Pinned := { name := "ytjnepcpjhhebaaa", sum := "c0b93fc4bdb73b79dbc17bea5bbb3aa69ccfd7cfbb12617abd3ece74b3715932", checked := Try.checked }
namespace Rows
def none {H : Type} : Left H := { results := [], args := [] }

/-- 'laws.FnExactMatchSet': WHATEVER THE INPUT: true; the input reads as it did. -/
def fnExactMatchSetSpec : ChangeSpec := { name := "fnExactMatchSet", fn := fun _ => fun
  | [d] => { results := [.lit (.bool true)], args := [d] }
  | _ => none }
def fnExactMatchSetRow : OpenClaim := { program := "ytjnepcpjhhebaaa", sum := "c0b93fc4bdb73b79dbc17bea5bbb3aa69ccfd7cfbb12617abd3ece74b3715932", func := "loop.example/g03010/laws.FnExactMatchSet", spec := "fnExactMatchSet", apart := false }
def FnExactMatchSetSaid : Prop := fnExactMatchSetRow.holds Try.pinned (OpenSpec.ofChange fnExactMatchSetSpec)

/-- ITS FALSE NEIGHBOUR: 'it returns false'. Refute it at one input. -/
def fnExactMatchSetWrong : ChangeSpec := { name := "fnExactMatchSet", fn := fun _ => fun
  | [d] => { results := [.lit (.bool false)], args := [d] }
  | _ => none }
def FnExactMatchSetWrongFalsely : Prop := fnExactMatchSetRow.holds Try.pinned (OpenSpec.ofChange fnExactMatchSetWrong)

/-- 'laws.FnSheets': WHATEVER THE INPUT: true; the input reads as it did. -/
def fnSheetsSpec : ChangeSpec := { name := "fnSheets", fn := fun _ => fun
  | [d] => { results := [.lit (.bool true)], args := [d] }
  | _ => none }
def fnSheetsRow : OpenClaim := { program := "ytjnepcpjhhebaaa", sum := "c0b93fc4bdb73b79dbc17bea5bbb3aa69ccfd7cfbb12617abd3ece74b3715932", func := "loop.example/g03010/laws.FnSheets", spec := "fnSheets", apart := false }
def FnSheetsSaid : Prop := fnSheetsRow.holds Try.pinned (OpenSpec.ofChange fnSheetsSpec)

/-- ITS FALSE NEIGHBOUR: 'it returns false'. Refute it at one input. -/
def fnSheetsWrong : ChangeSpec := { name := "fnSheets", fn := fun _ => fun
  | [d] => { results := [.lit (.bool false)], args := [d] }
  | _ => none }
def FnSheetsWrongFalsely : Prop := fnSheetsRow.holds Try.pinned (OpenSpec.ofChange fnSheetsWrong)

/-- 'laws.FnCalls': WHATEVER THE INPUT: true; the input reads as it did. -/
def fnCallsSpec : ChangeSpec := { name := "fnCalls", fn := fun _ => fun
  | [d] => { results := [.lit (.bool true)], args := [d] }
  | _ => none }
def fnCallsRow : OpenClaim := { program := "ytjnepcpjhhebaaa", sum := "c0b93fc4bdb73b79dbc17bea5bbb3aa69ccfd7cfbb12617abd3ece74b3715932", func := "loop.example/g03010/laws.FnCalls", spec := "fnCalls", apart := false }
def FnCallsSaid : Prop := fnCallsRow.holds Try.pinned (OpenSpec.ofChange fnCallsSpec)

/-- ITS FALSE NEIGHBOUR: 'it returns false'. Refute it at one input. -/
def fnCallsWrong : ChangeSpec := { name := "fnCalls", fn := fun _ => fun
  | [d] => { results := [.lit (.bool false)], args := [d] }
  | _ => none }
def FnCallsWrongFalsely : Prop := fnCallsRow.holds Try.pinned (OpenSpec.ofChange fnCallsWrong)

/-- 'laws.FnExactAlikePatterns': WHATEVER THE INPUT: true; the input reads as it did. -/
def fnExactAlikePatternsSpec : ChangeSpec := { name := "fnExactAlikePatterns", fn := fun _ => fun
  | [d1, d2] => { results := [.lit (.bool true)], args := [d1, d2] }
  | _ => none }
def fnExactAlikePatternsRow : OpenClaim := { program := "ytjnepcpjhhebaaa", sum := "c0b93fc4bdb73b79dbc17bea5bbb3aa69ccfd7cfbb12617abd3ece74b3715932", func := "loop.example/g03010/laws.FnExactAlikePatterns", spec := "fnExactAlikePatterns", apart := false }
def FnExactAlikePatternsSaid : Prop := fnExactAlikePatternsRow.holds Try.pinned (OpenSpec.ofChange fnExactAlikePatternsSpec)

/-- ITS FALSE NEIGHBOUR: 'it returns false'. Refute it at one input. -/
def fnExactAlikePatternsWrong : ChangeSpec := { name := "fnExactAlikePatterns", fn := fun _ => fun
  | [d1, d2] => { results := [.lit (.bool false)], args := [d1, d2] }
  | _ => none }
def FnExactAlikePatternsWrongFalsely : Prop := fnExactAlikePatternsRow.holds Try.pinned (OpenSpec.ofChange fnExactAlikePatternsWrong)

/-- 'laws.FnExactKindOf': WHATEVER THE INPUT: true; the input reads as it did. -/
def fnExactKindOfSpec : ChangeSpec := { name := "fnExactKindOf", fn := fun _ => fun
  | [d] => { results := [.lit (.bool true)], args := [d] }
  | _ => none }
def fnExactKindOfRow : OpenClaim := { program := "ytjnepcpjhhebaaa", sum := "c0b93fc4bdb73b79dbc17bea5bbb3aa69ccfd7cfbb12617abd3ece74b3715932", func := "loop.example/g03010/laws.FnExactKindOf", spec := "fnExactKindOf", apart := false }
def FnExactKindOfSaid : Prop := fnExactKindOfRow.holds Try.pinned (OpenSpec.ofChange fnExactKindOfSpec)

/-- ITS FALSE NEIGHBOUR: 'it returns false'. Refute it at one input. -/
def fnExactKindOfWrong : ChangeSpec := { name := "fnExactKindOf", fn := fun _ => fun
  | [d] => { results := [.lit (.bool false)], args := [d] }
  | _ => none }
def FnExactKindOfWrongFalsely : Prop := fnExactKindOfRow.holds Try.pinned (OpenSpec.ofChange fnExactKindOfWrong)

/-- 'laws.FnExactMeldsIn': WHATEVER THE INPUT: true; the input reads as it did. -/
def fnExactMeldsInSpec : ChangeSpec := { name := "fnExactMeldsIn", fn := fun _ => fun
  | [d] => { results := [.lit (.bool true)], args := [d] }
  | _ => none }
def fnExactMeldsInRow : OpenClaim := { program := "ytjnepcpjhhebaaa", sum := "c0b93fc4bdb73b79dbc17bea5bbb3aa69ccfd7cfbb12617abd3ece74b3715932", func := "loop.example/g03010/laws.FnExactMeldsIn", spec := "fnExactMeldsIn", apart := false }
def FnExactMeldsInSaid : Prop := fnExactMeldsInRow.holds Try.pinned (OpenSpec.ofChange fnExactMeldsInSpec)

/-- ITS FALSE NEIGHBOUR: 'it returns false'. Refute it at one input. -/
def fnExactMeldsInWrong : ChangeSpec := { name := "fnExactMeldsIn", fn := fun _ => fun
  | [d] => { results := [.lit (.bool false)], args := [d] }
  | _ => none }
def FnExactMeldsInWrongFalsely : Prop := fnExactMeldsInRow.holds Try.pinned (OpenSpec.ofChange fnExactMeldsInWrong)

/-- 'laws.FnExactIsDeal': WHATEVER THE INPUT: true; the input reads as it did. -/
def fnExactIsDealSpec : ChangeSpec := { name := "fnExactIsDeal", fn := fun _ => fun
  | [d] => { results := [.lit (.bool true)], args := [d] }
  | _ => none }
def fnExactIsDealRow : OpenClaim := { program := "ytjnepcpjhhebaaa", sum := "c0b93fc4bdb73b79dbc17bea5bbb3aa69ccfd7cfbb12617abd3ece74b3715932", func := "loop.example/g03010/laws.FnExactIsDeal", spec := "fnExactIsDeal", apart := false }
def FnExactIsDealSaid : Prop := fnExactIsDealRow.holds Try.pinned (OpenSpec.ofChange fnExactIsDealSpec)

/-- ITS FALSE NEIGHBOUR: 'it returns false'. Refute it at one input. -/
def fnExactIsDealWrong : ChangeSpec := { name := "fnExactIsDeal", fn := fun _ => fun
  | [d] => { results := [.lit (.bool false)], args := [d] }
  | _ => none }
def FnExactIsDealWrongFalsely : Prop := fnExactIsDealRow.holds Try.pinned (OpenSpec.ofChange fnExactIsDealWrong)

/-- 'laws.FnExactKeyOf': WHATEVER THE INPUT: true; the input reads as it did. -/
def fnExactKeyOfSpec : ChangeSpec := { name := "fnExactKeyOf", fn := fun _ => fun
  | [d] => { results := [.lit (.bool true)], args := [d] }
  | _ => none }
def fnExactKeyOfRow : OpenClaim := { program := "ytjnepcpjhhebaaa", sum := "c0b93fc4bdb73b79dbc17bea5bbb3aa69ccfd7cfbb12617abd3ece74b3715932", func := "loop.example/g03010/laws.FnExactKeyOf", spec := "fnExactKeyOf", apart := false }
def FnExactKeyOfSaid : Prop := fnExactKeyOfRow.holds Try.pinned (OpenSpec.ofChange fnExactKeyOfSpec)

/-- ITS FALSE NEIGHBOUR: 'it returns false'. Refute it at one input. -/
def fnExactKeyOfWrong : ChangeSpec := { name := "fnExactKeyOf", fn := fun _ => fun
  | [d] => { results := [.lit (.bool false)], args := [d] }
  | _ => none }
def FnExactKeyOfWrongFalsely : Prop := fnExactKeyOfRow.holds Try.pinned (OpenSpec.ofChange fnExactKeyOfWrong)

/-- 'laws.FnExactParsePattern': WHATEVER THE INPUT: true; the input reads as it did. -/
def fnExactParsePatternSpec : ChangeSpec := { name := "fnExactParsePattern", fn := fun _ => fun
  | [d] => { results := [.lit (.bool true)], args := [d] }
  | _ => none }
def fnExactParsePatternRow : OpenClaim := { program := "ytjnepcpjhhebaaa", sum := "c0b93fc4bdb73b79dbc17bea5bbb3aa69ccfd7cfbb12617abd3ece74b3715932", func := "loop.example/g03010/laws.FnExactParsePattern", spec := "fnExactParsePattern", inPlace := ["internal/bytealg.IndexByteString"], recurses := true, apart := false }
def FnExactParsePatternSaid : Prop := fnExactParsePatternRow.holds Try.pinned (OpenSpec.ofChange fnExactParsePatternSpec)

/-- ITS FALSE NEIGHBOUR: 'it returns false'. Refute it at one input. -/
def fnExactParsePatternWrong : ChangeSpec := { name := "fnExactParsePattern", fn := fun _ => fun
  | [d] => { results := [.lit (.bool false)], args := [d] }
  | _ => none }
def FnExactParsePatternWrongFalsely : Prop := fnExactParsePatternRow.holds Try.pinned (OpenSpec.ofChange fnExactParsePatternWrong)

/-- 'laws.FnExactIsOver': WHATEVER THE INPUT: true; the input reads as it did. -/
def fnExactIsOverSpec : ChangeSpec := { name := "fnExactIsOver", fn := fun _ => fun
  | [d] => { results := [.lit (.bool true)], args := [d] }
  | _ => none }
def fnExactIsOverRow : OpenClaim := { program := "ytjnepcpjhhebaaa", sum := "c0b93fc4bdb73b79dbc17bea5bbb3aa69ccfd7cfbb12617abd3ece74b3715932", func := "loop.example/g03010/laws.FnExactIsOver", spec := "fnExactIsOver", apart := false }
def FnExactIsOverSaid : Prop := fnExactIsOverRow.holds Try.pinned (OpenSpec.ofChange fnExactIsOverSpec)

/-- ITS FALSE NEIGHBOUR: 'it returns false'. Refute it at one input. -/
def fnExactIsOverWrong : ChangeSpec := { name := "fnExactIsOver", fn := fun _ => fun
  | [d] => { results := [.lit (.bool false)], args := [d] }
  | _ => none }
def FnExactIsOverWrongFalsely : Prop := fnExactIsOverRow.holds Try.pinned (OpenSpec.ofChange fnExactIsOverWrong)

/-- 'laws.FnExactNewDeal': WHATEVER THE INPUT: true; the input reads as it did. -/
def fnExactNewDealSpec : ChangeSpec := { name := "fnExactNewDeal", fn := fun _ => fun
  | [d1, d2, d3] => { results := [.lit (.bool true)], args := [d1, d2, d3] }
  | _ => none }
def fnExactNewDealRow : OpenClaim := { program := "ytjnepcpjhhebaaa", sum := "c0b93fc4bdb73b79dbc17bea5bbb3aa69ccfd7cfbb12617abd3ece74b3715932", func := "loop.example/g03010/laws.FnExactNewDeal", spec := "fnExactNewDeal", apart := false }
def FnExactNewDealSaid : Prop := fnExactNewDealRow.holds Try.pinned (OpenSpec.ofChange fnExactNewDealSpec)

/-- ITS FALSE NEIGHBOUR: 'it returns false'. Refute it at one input. -/
def fnExactNewDealWrong : ChangeSpec := { name := "fnExactNewDeal", fn := fun _ => fun
  | [d1, d2, d3] => { results := [.lit (.bool false)], args := [d1, d2, d3] }
  | _ => none }
def FnExactNewDealWrongFalsely : Prop := fnExactNewDealRow.holds Try.pinned (OpenSpec.ofChange fnExactNewDealWrong)

/-- 'laws.FnExactCompareFive': WHATEVER THE INPUT: true; the input reads as it did. -/
def fnExactCompareFiveSpec : ChangeSpec := { name := "fnExactCompareFive", fn := fun _ => fun
  | [d1, d2] => { results := [.lit (.bool true)], args := [d1, d2] }
  | _ => none }
def fnExactCompareFiveRow : OpenClaim := { program := "ytjnepcpjhhebaaa", sum := "c0b93fc4bdb73b79dbc17bea5bbb3aa69ccfd7cfbb12617abd3ece74b3715932", func := "loop.example/g03010/laws.FnExactCompareFive", spec := "fnExactCompareFive", apart := false }
def FnExactCompareFiveSaid : Prop := fnExactCompareFiveRow.holds Try.pinned (OpenSpec.ofChange fnExactCompareFiveSpec)

/-- ITS FALSE NEIGHBOUR: 'it returns false'. Refute it at one input. -/
def fnExactCompareFiveWrong : ChangeSpec := { name := "fnExactCompareFive", fn := fun _ => fun
  | [d1, d2] => { results := [.lit (.bool false)], args := [d1, d2] }
  | _ => none }
def FnExactCompareFiveWrongFalsely : Prop := fnExactCompareFiveRow.holds Try.pinned (OpenSpec.ofChange fnExactCompareFiveWrong)

/- THE SECOND FORM. 'bulk': how many values and letters a reading holds, each counted each time it is reached (what is shared counts as often as it is met; a slice's spare places count too). A statement '..UptoSaid' is the law's where the arguments, and the package variables that the reading takes, are together of bulk at most 1048576: NARROWER than '..Said'. Prove '..Said' where nothing that the law and all that it calls make is longer than what came in: it says more and counts as full. Else prove '..UptoSaid'. A law counts once. -/
mutual
def uptoBulk {H : Type} : DataW H → Nat
  | .lit (.string bytes) => bytes.length + 1
  | .lit _ => 1
  | .nil => 1
  | .ptr d => uptoBulk d + 1
  | .slice elems spare => uptoBulkAll elems + uptoBulkAll spare + 1
  | .agg parts => uptoBulkAll parts + 1
  | .iface _ d => uptoBulk d + 1
  | .map entries => uptoBulkEntries entries + 1
  | .held _ => 1
def uptoBulkAll {H : Type} : List (DataW H) → Nat
  | [] => 0
  | d :: r => uptoBulk d + uptoBulkAll r
def uptoBulkEntries {H : Type} : List (Lit × DataW H) → Nat
  | [] => 0
  | x :: r => uptoBulkEntry x + uptoBulkEntries r
def uptoBulkEntry {H : Type} : Lit × DataW H → Nat
  | (.string bytes, d) => bytes.length + uptoBulk d + 1
  | (_, d) => uptoBulk d + 1
 end
def uptoSmall : (H : Type) → List (DataW H) → Bool := fun _ ds => decide (uptoBulkAll ds ≤ 1048576)
def OpenSpec.upto (s : _root_.Go.ChangeSpec) : _root_.Go.OpenSpec := { _root_.Go.OpenSpec.ofChange s with cond := some uptoSmall }

/-- 'laws.FnExactMatchSet', WHERE WHAT IT READS IS OF BULK AT MOST 1048576: true; the input reads as it did. -/
def fnExactMatchSetUptoRow : OpenClaim := { program := "ytjnepcpjhhebaaa", sum := "c0b93fc4bdb73b79dbc17bea5bbb3aa69ccfd7cfbb12617abd3ece74b3715932", func := "loop.example/g03010/laws.FnExactMatchSet", spec := "fnExactMatchSet", apart := false, narrowed := true }
def FnExactMatchSetUptoSaid : Prop := fnExactMatchSetUptoRow.holds Try.pinned (OpenSpec.upto fnExactMatchSetSpec)

/-- 'laws.FnSheets', WHERE WHAT IT READS IS OF BULK AT MOST 1048576: true; the input reads as it did. -/
def fnSheetsUptoRow : OpenClaim := { program := "ytjnepcpjhhebaaa", sum := "c0b93fc4bdb73b79dbc17bea5bbb3aa69ccfd7cfbb12617abd3ece74b3715932", func := "loop.example/g03010/laws.FnSheets", spec := "fnSheets", apart := false, narrowed := true }
def FnSheetsUptoSaid : Prop := fnSheetsUptoRow.holds Try.pinned (OpenSpec.upto fnSheetsSpec)

/-- 'laws.FnCalls', WHERE WHAT IT READS IS OF BULK AT MOST 1048576: true; the input reads as it did. -/
def fnCallsUptoRow : OpenClaim := { program := "ytjnepcpjhhebaaa", sum := "c0b93fc4bdb73b79dbc17bea5bbb3aa69ccfd7cfbb12617abd3ece74b3715932", func := "loop.example/g03010/laws.FnCalls", spec := "fnCalls", apart := false, narrowed := true }
def FnCallsUptoSaid : Prop := fnCallsUptoRow.holds Try.pinned (OpenSpec.upto fnCallsSpec)

/-- 'laws.FnExactAlikePatterns', WHERE WHAT IT READS IS OF BULK AT MOST 1048576: true; the input reads as it did. -/
def fnExactAlikePatternsUptoRow : OpenClaim := { program := "ytjnepcpjhhebaaa", sum := "c0b93fc4bdb73b79dbc17bea5bbb3aa69ccfd7cfbb12617abd3ece74b3715932", func := "loop.example/g03010/laws.FnExactAlikePatterns", spec := "fnExactAlikePatterns", apart := false, narrowed := true }
def FnExactAlikePatternsUptoSaid : Prop := fnExactAlikePatternsUptoRow.holds Try.pinned (OpenSpec.upto fnExactAlikePatternsSpec)

/-- 'laws.FnExactKindOf', WHERE WHAT IT READS IS OF BULK AT MOST 1048576: true; the input reads as it did. -/
def fnExactKindOfUptoRow : OpenClaim := { program := "ytjnepcpjhhebaaa", sum := "c0b93fc4bdb73b79dbc17bea5bbb3aa69ccfd7cfbb12617abd3ece74b3715932", func := "loop.example/g03010/laws.FnExactKindOf", spec := "fnExactKindOf", apart := false, narrowed := true }
def FnExactKindOfUptoSaid : Prop := fnExactKindOfUptoRow.holds Try.pinned (OpenSpec.upto fnExactKindOfSpec)

/-- 'laws.FnExactMeldsIn', WHERE WHAT IT READS IS OF BULK AT MOST 1048576: true; the input reads as it did. -/
def fnExactMeldsInUptoRow : OpenClaim := { program := "ytjnepcpjhhebaaa", sum := "c0b93fc4bdb73b79dbc17bea5bbb3aa69ccfd7cfbb12617abd3ece74b3715932", func := "loop.example/g03010/laws.FnExactMeldsIn", spec := "fnExactMeldsIn", apart := false, narrowed := true }
def FnExactMeldsInUptoSaid : Prop := fnExactMeldsInUptoRow.holds Try.pinned (OpenSpec.upto fnExactMeldsInSpec)

/-- 'laws.FnExactIsDeal', WHERE WHAT IT READS IS OF BULK AT MOST 1048576: true; the input reads as it did. -/
def fnExactIsDealUptoRow : OpenClaim := { program := "ytjnepcpjhhebaaa", sum := "c0b93fc4bdb73b79dbc17bea5bbb3aa69ccfd7cfbb12617abd3ece74b3715932", func := "loop.example/g03010/laws.FnExactIsDeal", spec := "fnExactIsDeal", apart := false, narrowed := true }
def FnExactIsDealUptoSaid : Prop := fnExactIsDealUptoRow.holds Try.pinned (OpenSpec.upto fnExactIsDealSpec)

/-- 'laws.FnExactKeyOf', WHERE WHAT IT READS IS OF BULK AT MOST 1048576: true; the input reads as it did. -/
def fnExactKeyOfUptoRow : OpenClaim := { program := "ytjnepcpjhhebaaa", sum := "c0b93fc4bdb73b79dbc17bea5bbb3aa69ccfd7cfbb12617abd3ece74b3715932", func := "loop.example/g03010/laws.FnExactKeyOf", spec := "fnExactKeyOf", apart := false, narrowed := true }
def FnExactKeyOfUptoSaid : Prop := fnExactKeyOfUptoRow.holds Try.pinned (OpenSpec.upto fnExactKeyOfSpec)

/-- 'laws.FnExactParsePattern', WHERE WHAT IT READS IS OF BULK AT MOST 1048576: true; the input reads as it did. -/
def fnExactParsePatternUptoRow : OpenClaim := { program := "ytjnepcpjhhebaaa", sum := "c0b93fc4bdb73b79dbc17bea5bbb3aa69ccfd7cfbb12617abd3ece74b3715932", func := "loop.example/g03010/laws.FnExactParsePattern", spec := "fnExactParsePattern", inPlace := ["internal/bytealg.IndexByteString"], recurses := true, apart := false, narrowed := true }
def FnExactParsePatternUptoSaid : Prop := fnExactParsePatternUptoRow.holds Try.pinned (OpenSpec.upto fnExactParsePatternSpec)

/-- 'laws.FnExactIsOver', WHERE WHAT IT READS IS OF BULK AT MOST 1048576: true; the input reads as it did. -/
def fnExactIsOverUptoRow : OpenClaim := { program := "ytjnepcpjhhebaaa", sum := "c0b93fc4bdb73b79dbc17bea5bbb3aa69ccfd7cfbb12617abd3ece74b3715932", func := "loop.example/g03010/laws.FnExactIsOver", spec := "fnExactIsOver", apart := false, narrowed := true }
def FnExactIsOverUptoSaid : Prop := fnExactIsOverUptoRow.holds Try.pinned (OpenSpec.upto fnExactIsOverSpec)

/-- 'laws.FnExactNewDeal', WHERE WHAT IT READS IS OF BULK AT MOST 1048576: true; the input reads as it did. -/
def fnExactNewDealUptoRow : OpenClaim := { program := "ytjnepcpjhhebaaa", sum := "c0b93fc4bdb73b79dbc17bea5bbb3aa69ccfd7cfbb12617abd3ece74b3715932", func := "loop.example/g03010/laws.FnExactNewDeal", spec := "fnExactNewDeal", apart := false, narrowed := true }
def FnExactNewDealUptoSaid : Prop := fnExactNewDealUptoRow.holds Try.pinned (OpenSpec.upto fnExactNewDealSpec)

/-- 'laws.FnExactCompareFive', WHERE WHAT IT READS IS OF BULK AT MOST 1048576: true; the input reads as it did. -/
def fnExactCompareFiveUptoRow : OpenClaim := { program := "ytjnepcpjhhebaaa", sum := "c0b93fc4bdb73b79dbc17bea5bbb3aa69ccfd7cfbb12617abd3ece74b3715932", func := "loop.example/g03010/laws.FnExactCompareFive", spec := "fnExactCompareFive", apart := false, narrowed := true }
def FnExactCompareFiveUptoSaid : Prop := fnExactCompareFiveUptoRow.holds Try.pinned (OpenSpec.upto fnExactCompareFiveSpec)

end Rows
end Go.Proofs.Ytjnepcpjhhebaaa
