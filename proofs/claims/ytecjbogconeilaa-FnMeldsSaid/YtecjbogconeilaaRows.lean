/-
  No cell of these rows narrows 'for every input' (looked for: loops, veiled, ifaces, maps, wideKeys, modest, calm, conditions, laid).
  DERIVED. THE GIVEN ROWS OF THIS SEAT. 11 by the template 'for every input the law returns true; each argument reads behind the call as it read before'; 0 by the template 'total and deterministic' (their statements: YtecjbogconeilaaTotals.lean).
  GIVEN WITH THE SEED: the statements are not yours to turn. If you find one false, say at which input.
  Laid BY PROGRAM, IN A SANDBOX (cutbox-rows.mjs): the forced cells as the released guide's own fill.sh prints them over the translation 1c9b781bc08bd3ff… (all of the seat's roots in one cut). By AI agents, Wed Nov 11 2026. No macro, syntax, notation, axiom, sorry.
-/
import Derived.Test.YtecjbogconeilaaChecked
import GoSem.Claim
import GoSem.ClaimJoined
import GoSem.ClaimMapViews
import Derived.JoinedTies
import Derived.KernelRfl
namespace Go.Proofs.Ytecjbogconeilaa
/- THE CELL 'sum', in the pinned program and in every row, IS THE sha256 OF THE DUMP (.gsa) THAT YtecjbogconeilaaProg.lean LOADS. Nothing in Lean hashes anything: it is a label: what it is worth is what the hold of that sum in a sandbox is worth. -/
noncomputable def Try.pinned : Pinned := { name := "ytecjbogconeilaa", sum := "1c9b781bc08bd3ff7697adff9218bc59e8a4ba4c383960cef6d0ecd9f83e0542", checked := Try.checked }
namespace Rows
def none {H : Type} : Left H := { results := [], args := [] }

/-- 'laws.FnNotations': WHATEVER THE INPUT: true; the input reads as it did. -/
def fnNotationsSpec : ChangeSpec := { name := "fnNotations", fn := fun _ => fun
  | [d] => { results := [.lit (.bool true)], args := [d] }
  | _ => none }
def fnNotationsRow : OpenClaim := { program := "ytecjbogconeilaa", sum := "1c9b781bc08bd3ff7697adff9218bc59e8a4ba4c383960cef6d0ecd9f83e0542", func := "loop.example/g03010/laws.FnNotations", spec := "fnNotations", inPlace := ["internal/bytealg.IndexByteString", "internal/abi.NoEscape", "internal/bytealg.MakeNoZero"], recurses := true, apart := false }
def FnNotationsSaid : Prop := fnNotationsRow.holds Try.pinned (OpenSpec.ofChange fnNotationsSpec)

/-- ITS FALSE NEIGHBOUR: 'it returns false'. Refute it at one input. -/
def fnNotationsWrong : ChangeSpec := { name := "fnNotations", fn := fun _ => fun
  | [d] => { results := [.lit (.bool false)], args := [d] }
  | _ => none }
def FnNotationsWrongFalsely : Prop := fnNotationsRow.holds Try.pinned (OpenSpec.ofChange fnNotationsWrong)

/-- 'laws.FnExactMeldsIn': WHATEVER THE INPUT: true; the input reads as it did. -/
def fnExactMeldsInSpec : ChangeSpec := { name := "fnExactMeldsIn", fn := fun _ => fun
  | [d] => { results := [.lit (.bool true)], args := [d] }
  | _ => none }
def fnExactMeldsInRow : OpenClaim := { program := "ytecjbogconeilaa", sum := "1c9b781bc08bd3ff7697adff9218bc59e8a4ba4c383960cef6d0ecd9f83e0542", func := "loop.example/g03010/laws.FnExactMeldsIn", spec := "fnExactMeldsIn", apart := false }
def FnExactMeldsInSaid : Prop := fnExactMeldsInRow.holds Try.pinned (OpenSpec.ofChange fnExactMeldsInSpec)

/-- ITS FALSE NEIGHBOUR: 'it returns false'. Refute it at one input. -/
def fnExactMeldsInWrong : ChangeSpec := { name := "fnExactMeldsIn", fn := fun _ => fun
  | [d] => { results := [.lit (.bool false)], args := [d] }
  | _ => none }
def FnExactMeldsInWrongFalsely : Prop := fnExactMeldsInRow.holds Try.pinned (OpenSpec.ofChange fnExactMeldsInWrong)

/-- 'laws.FnExactIsDeal': WHATEVER THE INPUT: true; the input reads as it did. -/
def fnExactIsDealSpec : ChangeSpec := { name := "fnExactIsDeal", fn := fun _ => fun
  | [d] => { results := [.lit (.bool true)], args := [d] }
  | _ => none }
def fnExactIsDealRow : OpenClaim := { program := "ytecjbogconeilaa", sum := "1c9b781bc08bd3ff7697adff9218bc59e8a4ba4c383960cef6d0ecd9f83e0542", func := "loop.example/g03010/laws.FnExactIsDeal", spec := "fnExactIsDeal", apart := false }
def FnExactIsDealSaid : Prop := fnExactIsDealRow.holds Try.pinned (OpenSpec.ofChange fnExactIsDealSpec)

/-- ITS FALSE NEIGHBOUR: 'it returns false'. Refute it at one input. -/
def fnExactIsDealWrong : ChangeSpec := { name := "fnExactIsDeal", fn := fun _ => fun
  | [d] => { results := [.lit (.bool false)], args := [d] }
  | _ => none }
def FnExactIsDealWrongFalsely : Prop := fnExactIsDealRow.holds Try.pinned (OpenSpec.ofChange fnExactIsDealWrong)

/-- 'laws.FnExactParsePattern': WHATEVER THE INPUT: true; the input reads as it did. -/
def fnExactParsePatternSpec : ChangeSpec := { name := "fnExactParsePattern", fn := fun _ => fun
  | [d] => { results := [.lit (.bool true)], args := [d] }
  | _ => none }
def fnExactParsePatternRow : OpenClaim := { program := "ytecjbogconeilaa", sum := "1c9b781bc08bd3ff7697adff9218bc59e8a4ba4c383960cef6d0ecd9f83e0542", func := "loop.example/g03010/laws.FnExactParsePattern", spec := "fnExactParsePattern", inPlace := ["internal/bytealg.IndexByteString"], recurses := true, apart := false }
def FnExactParsePatternSaid : Prop := fnExactParsePatternRow.holds Try.pinned (OpenSpec.ofChange fnExactParsePatternSpec)

/-- ITS FALSE NEIGHBOUR: 'it returns false'. Refute it at one input. -/
def fnExactParsePatternWrong : ChangeSpec := { name := "fnExactParsePattern", fn := fun _ => fun
  | [d] => { results := [.lit (.bool false)], args := [d] }
  | _ => none }
def FnExactParsePatternWrongFalsely : Prop := fnExactParsePatternRow.holds Try.pinned (OpenSpec.ofChange fnExactParsePatternWrong)

/-- 'laws.FnExactIsOver': WHATEVER THE INPUT: true; the input reads as it did. -/
def fnExactIsOverSpec : ChangeSpec := { name := "fnExactIsOver", fn := fun _ => fun
  | [d] => { results := [.lit (.bool true)], args := [d] }
  | _ => none }
def fnExactIsOverRow : OpenClaim := { program := "ytecjbogconeilaa", sum := "1c9b781bc08bd3ff7697adff9218bc59e8a4ba4c383960cef6d0ecd9f83e0542", func := "loop.example/g03010/laws.FnExactIsOver", spec := "fnExactIsOver", apart := false }
def FnExactIsOverSaid : Prop := fnExactIsOverRow.holds Try.pinned (OpenSpec.ofChange fnExactIsOverSpec)

/-- ITS FALSE NEIGHBOUR: 'it returns false'. Refute it at one input. -/
def fnExactIsOverWrong : ChangeSpec := { name := "fnExactIsOver", fn := fun _ => fun
  | [d] => { results := [.lit (.bool false)], args := [d] }
  | _ => none }
def FnExactIsOverWrongFalsely : Prop := fnExactIsOverRow.holds Try.pinned (OpenSpec.ofChange fnExactIsOverWrong)

/-- 'laws.FnExactNewDeal': WHATEVER THE INPUT: true; the input reads as it did. -/
def fnExactNewDealSpec : ChangeSpec := { name := "fnExactNewDeal", fn := fun _ => fun
  | [d1, d2, d3] => { results := [.lit (.bool true)], args := [d1, d2, d3] }
  | _ => none }
def fnExactNewDealRow : OpenClaim := { program := "ytecjbogconeilaa", sum := "1c9b781bc08bd3ff7697adff9218bc59e8a4ba4c383960cef6d0ecd9f83e0542", func := "loop.example/g03010/laws.FnExactNewDeal", spec := "fnExactNewDeal", apart := false }
def FnExactNewDealSaid : Prop := fnExactNewDealRow.holds Try.pinned (OpenSpec.ofChange fnExactNewDealSpec)

/-- ITS FALSE NEIGHBOUR: 'it returns false'. Refute it at one input. -/
def fnExactNewDealWrong : ChangeSpec := { name := "fnExactNewDeal", fn := fun _ => fun
  | [d1, d2, d3] => { results := [.lit (.bool false)], args := [d1, d2, d3] }
  | _ => none }
def FnExactNewDealWrongFalsely : Prop := fnExactNewDealRow.holds Try.pinned (OpenSpec.ofChange fnExactNewDealWrong)

/-- 'laws.FnFives': WHATEVER THE INPUT: true; the input reads as it did. -/
def fnFivesSpec : ChangeSpec := { name := "fnFives", fn := fun _ => fun
  | [d] => { results := [.lit (.bool true)], args := [d] }
  | _ => none }
def fnFivesRow : OpenClaim := { program := "ytecjbogconeilaa", sum := "1c9b781bc08bd3ff7697adff9218bc59e8a4ba4c383960cef6d0ecd9f83e0542", func := "loop.example/g03010/laws.FnFives", spec := "fnFives", apart := false }
def FnFivesSaid : Prop := fnFivesRow.holds Try.pinned (OpenSpec.ofChange fnFivesSpec)

/-- ITS FALSE NEIGHBOUR: 'it returns false'. Refute it at one input. -/
def fnFivesWrong : ChangeSpec := { name := "fnFives", fn := fun _ => fun
  | [d] => { results := [.lit (.bool false)], args := [d] }
  | _ => none }
def FnFivesWrongFalsely : Prop := fnFivesRow.holds Try.pinned (OpenSpec.ofChange fnFivesWrong)

/-- 'laws.FnMelds': WHATEVER THE INPUT: true; the input reads as it did. -/
def fnMeldsSpec : ChangeSpec := { name := "fnMelds", fn := fun _ => fun
  | [d] => { results := [.lit (.bool true)], args := [d] }
  | _ => none }
def fnMeldsRow : OpenClaim := { program := "ytecjbogconeilaa", sum := "1c9b781bc08bd3ff7697adff9218bc59e8a4ba4c383960cef6d0ecd9f83e0542", func := "loop.example/g03010/laws.FnMelds", spec := "fnMelds", unfollowed := true, recurses := true, apart := false }
def FnMeldsSaid : Prop := fnMeldsRow.holds Try.pinned (OpenSpec.ofChange fnMeldsSpec)

/-- ITS FALSE NEIGHBOUR: 'it returns false'. Refute it at one input. -/
def fnMeldsWrong : ChangeSpec := { name := "fnMelds", fn := fun _ => fun
  | [d] => { results := [.lit (.bool false)], args := [d] }
  | _ => none }
def FnMeldsWrongFalsely : Prop := fnMeldsRow.holds Try.pinned (OpenSpec.ofChange fnMeldsWrong)

/-- 'laws.FnExactLeftOver': WHATEVER THE INPUT: true; the input reads as it did. -/
def fnExactLeftOverSpec : ChangeSpec := { name := "fnExactLeftOver", fn := fun _ => fun
  | [d] => { results := [.lit (.bool true)], args := [d] }
  | _ => none }
def fnExactLeftOverRow : OpenClaim := { program := "ytecjbogconeilaa", sum := "1c9b781bc08bd3ff7697adff9218bc59e8a4ba4c383960cef6d0ecd9f83e0542", func := "loop.example/g03010/laws.FnExactLeftOver", spec := "fnExactLeftOver", unfollowed := true, recurses := true, apart := false }
def FnExactLeftOverSaid : Prop := fnExactLeftOverRow.holds Try.pinned (OpenSpec.ofChange fnExactLeftOverSpec)

/-- ITS FALSE NEIGHBOUR: 'it returns false'. Refute it at one input. -/
def fnExactLeftOverWrong : ChangeSpec := { name := "fnExactLeftOver", fn := fun _ => fun
  | [d] => { results := [.lit (.bool false)], args := [d] }
  | _ => none }
def FnExactLeftOverWrongFalsely : Prop := fnExactLeftOverRow.holds Try.pinned (OpenSpec.ofChange fnExactLeftOverWrong)

/-- 'laws.FnExactCanGoOut': WHATEVER THE INPUT: true; the input reads as it did. -/
def fnExactCanGoOutSpec : ChangeSpec := { name := "fnExactCanGoOut", fn := fun _ => fun
  | [d] => { results := [.lit (.bool true)], args := [d] }
  | _ => none }
def fnExactCanGoOutRow : OpenClaim := { program := "ytecjbogconeilaa", sum := "1c9b781bc08bd3ff7697adff9218bc59e8a4ba4c383960cef6d0ecd9f83e0542", func := "loop.example/g03010/laws.FnExactCanGoOut", spec := "fnExactCanGoOut", unfollowed := true, recurses := true, apart := false }
def FnExactCanGoOutSaid : Prop := fnExactCanGoOutRow.holds Try.pinned (OpenSpec.ofChange fnExactCanGoOutSpec)

/-- ITS FALSE NEIGHBOUR: 'it returns false'. Refute it at one input. -/
def fnExactCanGoOutWrong : ChangeSpec := { name := "fnExactCanGoOut", fn := fun _ => fun
  | [d] => { results := [.lit (.bool false)], args := [d] }
  | _ => none }
def FnExactCanGoOutWrongFalsely : Prop := fnExactCanGoOutRow.holds Try.pinned (OpenSpec.ofChange fnExactCanGoOutWrong)

/-- 'laws.FnPatterns': WHATEVER THE INPUT: true; the input reads as it did. -/
def fnPatternsSpec : ChangeSpec := { name := "fnPatterns", fn := fun _ => fun
  | [d] => { results := [.lit (.bool true)], args := [d] }
  | _ => none }
def fnPatternsRow : OpenClaim := { program := "ytecjbogconeilaa", sum := "1c9b781bc08bd3ff7697adff9218bc59e8a4ba4c383960cef6d0ecd9f83e0542", func := "loop.example/g03010/laws.FnPatterns", spec := "fnPatterns", recurses := true, apart := false }
def FnPatternsSaid : Prop := fnPatternsRow.holds Try.pinned (OpenSpec.ofChange fnPatternsSpec)

/-- ITS FALSE NEIGHBOUR: 'it returns false'. Refute it at one input. -/
def fnPatternsWrong : ChangeSpec := { name := "fnPatterns", fn := fun _ => fun
  | [d] => { results := [.lit (.bool false)], args := [d] }
  | _ => none }
def FnPatternsWrongFalsely : Prop := fnPatternsRow.holds Try.pinned (OpenSpec.ofChange fnPatternsWrong)

/- THE SECOND FORM. 'bulk': how many values and letters a reading holds, each counted each time it is reached (what is shared counts as often as it is met; a slice's spare places count too). A statement '..UptoSaid' is the law's where the arguments, and the package variables that the reading takes, are together of bulk at most 1048576: NARROWER than '..Said'. Prove '..Said' where nothing that the law and all that it calls make is longer than what came in: it says more and counts as full. Else prove '..UptoSaid'. A law counts once. -/
mutual
def uptoBulk {H : Type} : DataW H → Nat
  | .lit (.string bytes) => bytes.length + 1
  | .lit _ => 1
  | .nil => 1
  | .ptr d => uptoBulk d + 1
  | .slice elems spare => uptoBulkAll elems + uptoBulkAll spare + 1
  | .agg parts => uptoBulkAll parts + 1
  | .iface _ d => uptoBulk d + 1
  | .map entries => uptoBulkEntries entries + 1
  | .held _ => 1
def uptoBulkAll {H : Type} : List (DataW H) → Nat
  | [] => 0
  | d :: r => uptoBulk d + uptoBulkAll r
def uptoBulkEntries {H : Type} : List (Lit × DataW H) → Nat
  | [] => 0
  | x :: r => uptoBulkEntry x + uptoBulkEntries r
def uptoBulkEntry {H : Type} : Lit × DataW H → Nat
  | (.string bytes, d) => bytes.length + uptoBulk d + 1
  | (_, d) => uptoBulk d + 1
 end
def uptoSmall : (H : Type) → List (DataW H) → Bool := fun _ ds => decide (uptoBulkAll ds ≤ 1048576)
def OpenSpec.upto (s : _root_.Go.ChangeSpec) : _root_.Go.OpenSpec := { _root_.Go.OpenSpec.ofChange s with cond := some uptoSmall }

/-- 'laws.FnNotations', WHERE WHAT IT READS IS OF BULK AT MOST 1048576: true; the input reads as it did. -/
def fnNotationsUptoRow : OpenClaim := { program := "ytecjbogconeilaa", sum := "1c9b781bc08bd3ff7697adff9218bc59e8a4ba4c383960cef6d0ecd9f83e0542", func := "loop.example/g03010/laws.FnNotations", spec := "fnNotations", inPlace := ["internal/bytealg.IndexByteString", "internal/abi.NoEscape", "internal/bytealg.MakeNoZero"], recurses := true, apart := false, narrowed := true }
def FnNotationsUptoSaid : Prop := fnNotationsUptoRow.holds Try.pinned (OpenSpec.upto fnNotationsSpec)

/-- 'laws.FnExactMeldsIn', WHERE WHAT IT READS IS OF BULK AT MOST 1048576: true; the input reads as it did. -/
def fnExactMeldsInUptoRow : OpenClaim := { program := "ytecjbogconeilaa", sum := "1c9b781bc08bd3ff7697adff9218bc59e8a4ba4c383960cef6d0ecd9f83e0542", func := "loop.example/g03010/laws.FnExactMeldsIn", spec := "fnExactMeldsIn", apart := false, narrowed := true }
def FnExactMeldsInUptoSaid : Prop := fnExactMeldsInUptoRow.holds Try.pinned (OpenSpec.upto fnExactMeldsInSpec)

/-- 'laws.FnExactIsDeal', WHERE WHAT IT READS IS OF BULK AT MOST 1048576: true; the input reads as it did. -/
def fnExactIsDealUptoRow : OpenClaim := { program := "ytecjbogconeilaa", sum := "1c9b781bc08bd3ff7697adff9218bc59e8a4ba4c383960cef6d0ecd9f83e0542", func := "loop.example/g03010/laws.FnExactIsDeal", spec := "fnExactIsDeal", apart := false, narrowed := true }
def FnExactIsDealUptoSaid : Prop := fnExactIsDealUptoRow.holds Try.pinned (OpenSpec.upto fnExactIsDealSpec)

/-- 'laws.FnExactParsePattern', WHERE WHAT IT READS IS OF BULK AT MOST 1048576: true; the input reads as it did. -/
def fnExactParsePatternUptoRow : OpenClaim := { program := "ytecjbogconeilaa", sum := "1c9b781bc08bd3ff7697adff9218bc59e8a4ba4c383960cef6d0ecd9f83e0542", func := "loop.example/g03010/laws.FnExactParsePattern", spec := "fnExactParsePattern", inPlace := ["internal/bytealg.IndexByteString"], recurses := true, apart := false, narrowed := true }
def FnExactParsePatternUptoSaid : Prop := fnExactParsePatternUptoRow.holds Try.pinned (OpenSpec.upto fnExactParsePatternSpec)

/-- 'laws.FnExactIsOver', WHERE WHAT IT READS IS OF BULK AT MOST 1048576: true; the input reads as it did. -/
def fnExactIsOverUptoRow : OpenClaim := { program := "ytecjbogconeilaa", sum := "1c9b781bc08bd3ff7697adff9218bc59e8a4ba4c383960cef6d0ecd9f83e0542", func := "loop.example/g03010/laws.FnExactIsOver", spec := "fnExactIsOver", apart := false, narrowed := true }
def FnExactIsOverUptoSaid : Prop := fnExactIsOverUptoRow.holds Try.pinned (OpenSpec.upto fnExactIsOverSpec)

/-- 'laws.FnExactNewDeal', WHERE WHAT IT READS IS OF BULK AT MOST 1048576: true; the input reads as it did. -/
def fnExactNewDealUptoRow : OpenClaim := { program := "ytecjbogconeilaa", sum := "1c9b781bc08bd3ff7697adff9218bc59e8a4ba4c383960cef6d0ecd9f83e0542", func := "loop.example/g03010/laws.FnExactNewDeal", spec := "fnExactNewDeal", apart := false, narrowed := true }
def FnExactNewDealUptoSaid : Prop := fnExactNewDealUptoRow.holds Try.pinned (OpenSpec.upto fnExactNewDealSpec)

/-- 'laws.FnFives', WHERE WHAT IT READS IS OF BULK AT MOST 1048576: true; the input reads as it did. -/
def fnFivesUptoRow : OpenClaim := { program := "ytecjbogconeilaa", sum := "1c9b781bc08bd3ff7697adff9218bc59e8a4ba4c383960cef6d0ecd9f83e0542", func := "loop.example/g03010/laws.FnFives", spec := "fnFives", apart := false, narrowed := true }
def FnFivesUptoSaid : Prop := fnFivesUptoRow.holds Try.pinned (OpenSpec.upto fnFivesSpec)

/-- 'laws.FnMelds', WHERE WHAT IT READS IS OF BULK AT MOST 1048576: true; the input reads as it did. -/
def fnMeldsUptoRow : OpenClaim := { program := "ytecjbogconeilaa", sum := "1c9b781bc08bd3ff7697adff9218bc59e8a4ba4c383960cef6d0ecd9f83e0542", func := "loop.example/g03010/laws.FnMelds", spec := "fnMelds", unfollowed := true, recurses := true, apart := false, narrowed := true }
def FnMeldsUptoSaid : Prop := fnMeldsUptoRow.holds Try.pinned (OpenSpec.upto fnMeldsSpec)

/-- 'laws.FnExactLeftOver', WHERE WHAT IT READS IS OF BULK AT MOST 1048576: true; the input reads as it did. -/
def fnExactLeftOverUptoRow : OpenClaim := { program := "ytecjbogconeilaa", sum := "1c9b781bc08bd3ff7697adff9218bc59e8a4ba4c383960cef6d0ecd9f83e0542", func := "loop.example/g03010/laws.FnExactLeftOver", spec := "fnExactLeftOver", unfollowed := true, recurses := true, apart := false, narrowed := true }
def FnExactLeftOverUptoSaid : Prop := fnExactLeftOverUptoRow.holds Try.pinned (OpenSpec.upto fnExactLeftOverSpec)

/-- 'laws.FnExactCanGoOut', WHERE WHAT IT READS IS OF BULK AT MOST 1048576: true; the input reads as it did. -/
def fnExactCanGoOutUptoRow : OpenClaim := { program := "ytecjbogconeilaa", sum := "1c9b781bc08bd3ff7697adff9218bc59e8a4ba4c383960cef6d0ecd9f83e0542", func := "loop.example/g03010/laws.FnExactCanGoOut", spec := "fnExactCanGoOut", unfollowed := true, recurses := true, apart := false, narrowed := true }
def FnExactCanGoOutUptoSaid : Prop := fnExactCanGoOutUptoRow.holds Try.pinned (OpenSpec.upto fnExactCanGoOutSpec)

/-- 'laws.FnPatterns', WHERE WHAT IT READS IS OF BULK AT MOST 1048576: true; the input reads as it did. -/
def fnPatternsUptoRow : OpenClaim := { program := "ytecjbogconeilaa", sum := "1c9b781bc08bd3ff7697adff9218bc59e8a4ba4c383960cef6d0ecd9f83e0542", func := "loop.example/g03010/laws.FnPatterns", spec := "fnPatterns", recurses := true, apart := false, narrowed := true }
def FnPatternsUptoSaid : Prop := fnPatternsUptoRow.holds Try.pinned (OpenSpec.upto fnPatternsSpec)

end Rows
end Go.Proofs.Ytecjbogconeilaa
