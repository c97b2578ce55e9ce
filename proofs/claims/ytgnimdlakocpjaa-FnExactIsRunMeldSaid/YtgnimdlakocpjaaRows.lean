/-
  No cell of these rows narrows 'for every input' (looked for: loops, veiled, ifaces, maps, wideKeys, modest, calm, conditions, laid).
  DERIVED. THE GIVEN ROWS OF THIS SEAT. 6 by the template 'for every input the law returns true; each argument reads behind the call as it read before'; 0 by the template 'total and deterministic' (their statements: YtgnimdlakocpjaaTotals.lean).
  GIVEN WITH THE SEED: the statements are not yours to turn. If you find one false, say at which input.
  Laid BY PROGRAM, IN A SANDBOX (cutbox-rows.mjs): the forced cells as the released guide's own fill.sh prints them over the translation 9e9da530155669f1… (all of the seat's roots in one cut). By AI agents, Wed Nov 11 2026. No macro, syntax, notation, axiom, sorry.
-/
import Derived.Test.YtgnimdlakocpjaaChecked
import GoSem.Claim
import GoSem.ClaimJoined
import GoSem.ClaimMapViews
import Derived.JoinedTies
import Derived.KernelRfl
namespace Go.Proofs.Ytgnimdlakocpjaa
/- THE CELL 'sum', in the pinned program and in every row, IS THE sha256 OF THE DUMP (.gsa) THAT YtgnimdlakocpjaaProg.lean LOADS. Nothing in Lean hashes anything: it is a label: what it is worth is what the hold of that sum in a sandbox is worth. -/
noncomputable def Try.pinned : Pinned := { name := "ytgnimdlakocpjaa", sum := "9e9da530155669f167c2be7fa74d39f9585ec83a0f4fa64bc8b6cbe1e97b2adf", checked := Try.checked }
namespace Rows
def none {H : Type} : Left H := { results := [], args := [] }

/-- 'laws.FnTricks': WHATEVER THE INPUT: true; the input reads as it did. -/
def fnTricksSpec : ChangeSpec := { name := "fnTricks", fn := fun _ => fun
  | [d] => { results := [.lit (.bool true)], args := [d] }
  | _ => none }
def fnTricksRow : OpenClaim := { program := "ytgnimdlakocpjaa", sum := "9e9da530155669f167c2be7fa74d39f9585ec83a0f4fa64bc8b6cbe1e97b2adf", func := "loop.example/g03010/laws.FnTricks", spec := "fnTricks", apart := false }
def FnTricksSaid : Prop := fnTricksRow.holds Try.pinned (OpenSpec.ofChange fnTricksSpec)

/-- ITS FALSE NEIGHBOUR: 'it returns false'. Refute it at one input. -/
def fnTricksWrong : ChangeSpec := { name := "fnTricks", fn := fun _ => fun
  | [d] => { results := [.lit (.bool false)], args := [d] }
  | _ => none }
def FnTricksWrongFalsely : Prop := fnTricksRow.holds Try.pinned (OpenSpec.ofChange fnTricksWrong)

/-- 'laws.FnExactBestFive': WHATEVER THE INPUT: true; the input reads as it did. -/
def fnExactBestFiveSpec : ChangeSpec := { name := "fnExactBestFive", fn := fun _ => fun
  | [d] => { results := [.lit (.bool true)], args := [d] }
  | _ => none }
def fnExactBestFiveRow : OpenClaim := { program := "ytgnimdlakocpjaa", sum := "9e9da530155669f167c2be7fa74d39f9585ec83a0f4fa64bc8b6cbe1e97b2adf", func := "loop.example/g03010/laws.FnExactBestFive", spec := "fnExactBestFive", apart := false }
def FnExactBestFiveSaid : Prop := fnExactBestFiveRow.holds Try.pinned (OpenSpec.ofChange fnExactBestFiveSpec)

/-- ITS FALSE NEIGHBOUR: 'it returns false'. Refute it at one input. -/
def fnExactBestFiveWrong : ChangeSpec := { name := "fnExactBestFive", fn := fun _ => fun
  | [d] => { results := [.lit (.bool false)], args := [d] }
  | _ => none }
def FnExactBestFiveWrongFalsely : Prop := fnExactBestFiveRow.holds Try.pinned (OpenSpec.ofChange fnExactBestFiveWrong)

/-- 'laws.FnExactIsRunMeld': WHATEVER THE INPUT: true; the input reads as it did. -/
def fnExactIsRunMeldSpec : ChangeSpec := { name := "fnExactIsRunMeld", fn := fun _ => fun
  | [d] => { results := [.lit (.bool true)], args := [d] }
  | _ => none }
def fnExactIsRunMeldRow : OpenClaim := { program := "ytgnimdlakocpjaa", sum := "9e9da530155669f167c2be7fa74d39f9585ec83a0f4fa64bc8b6cbe1e97b2adf", func := "loop.example/g03010/laws.FnExactIsRunMeld", spec := "fnExactIsRunMeld", apart := false }
def FnExactIsRunMeldSaid : Prop := fnExactIsRunMeldRow.holds Try.pinned (OpenSpec.ofChange fnExactIsRunMeldSpec)

/-- ITS FALSE NEIGHBOUR: 'it returns false'. Refute it at one input. -/
def fnExactIsRunMeldWrong : ChangeSpec := { name := "fnExactIsRunMeld", fn := fun _ => fun
  | [d] => { results := [.lit (.bool false)], args := [d] }
  | _ => none }
def FnExactIsRunMeldWrongFalsely : Prop := fnExactIsRunMeldRow.holds Try.pinned (OpenSpec.ofChange fnExactIsRunMeldWrong)

/-- 'laws.FnNotations': WHATEVER THE INPUT: true; the input reads as it did. -/
def fnNotationsSpec : ChangeSpec := { name := "fnNotations", fn := fun _ => fun
  | [d] => { results := [.lit (.bool true)], args := [d] }
  | _ => none }
def fnNotationsRow : OpenClaim := { program := "ytgnimdlakocpjaa", sum := "9e9da530155669f167c2be7fa74d39f9585ec83a0f4fa64bc8b6cbe1e97b2adf", func := "loop.example/g03010/laws.FnNotations", spec := "fnNotations", inPlace := ["internal/bytealg.IndexByteString", "internal/abi.NoEscape", "internal/bytealg.MakeNoZero"], recurses := true, apart := false }
def FnNotationsSaid : Prop := fnNotationsRow.holds Try.pinned (OpenSpec.ofChange fnNotationsSpec)

/-- ITS FALSE NEIGHBOUR: 'it returns false'. Refute it at one input. -/
def fnNotationsWrong : ChangeSpec := { name := "fnNotations", fn := fun _ => fun
  | [d] => { results := [.lit (.bool false)], args := [d] }
  | _ => none }
def FnNotationsWrongFalsely : Prop := fnNotationsRow.holds Try.pinned (OpenSpec.ofChange fnNotationsWrong)

/-- 'laws.FnExactDealt': WHATEVER THE INPUT: true; the input reads as it did. -/
def fnExactDealtSpec : ChangeSpec := { name := "fnExactDealt", fn := fun _ => fun
  | [d1, d2, d3] => { results := [.lit (.bool true)], args := [d1, d2, d3] }
  | _ => none }
def fnExactDealtRow : OpenClaim := { program := "ytgnimdlakocpjaa", sum := "9e9da530155669f167c2be7fa74d39f9585ec83a0f4fa64bc8b6cbe1e97b2adf", func := "loop.example/g03010/laws.FnExactDealt", spec := "fnExactDealt", apart := false }
def FnExactDealtSaid : Prop := fnExactDealtRow.holds Try.pinned (OpenSpec.ofChange fnExactDealtSpec)

/-- ITS FALSE NEIGHBOUR: 'it returns false'. Refute it at one input. -/
def fnExactDealtWrong : ChangeSpec := { name := "fnExactDealt", fn := fun _ => fun
  | [d1, d2, d3] => { results := [.lit (.bool false)], args := [d1, d2, d3] }
  | _ => none }
def FnExactDealtWrongFalsely : Prop := fnExactDealtRow.holds Try.pinned (OpenSpec.ofChange fnExactDealtWrong)

/-- 'laws.FnExactPatternText': WHATEVER THE INPUT: true; the input reads as it did. -/
def fnExactPatternTextSpec : ChangeSpec := { name := "fnExactPatternText", fn := fun _ => fun
  | [d] => { results := [.lit (.bool true)], args := [d] }
  | _ => none }
def fnExactPatternTextRow : OpenClaim := { program := "ytgnimdlakocpjaa", sum := "9e9da530155669f167c2be7fa74d39f9585ec83a0f4fa64bc8b6cbe1e97b2adf", func := "loop.example/g03010/laws.FnExactPatternText", spec := "fnExactPatternText", apart := false }
def FnExactPatternTextSaid : Prop := fnExactPatternTextRow.holds Try.pinned (OpenSpec.ofChange fnExactPatternTextSpec)

/-- ITS FALSE NEIGHBOUR: 'it returns false'. Refute it at one input. -/
def fnExactPatternTextWrong : ChangeSpec := { name := "fnExactPatternText", fn := fun _ => fun
  | [d] => { results := [.lit (.bool false)], args := [d] }
  | _ => none }
def FnExactPatternTextWrongFalsely : Prop := fnExactPatternTextRow.holds Try.pinned (OpenSpec.ofChange fnExactPatternTextWrong)

/- THE SECOND FORM. 'bulk': how many values and letters a reading holds, each counted each time it is reached (what is shared counts as often as it is met; a slice's spare places count too). A statement '..UptoSaid' is the law's where the arguments, and the package variables that the reading takes, are together of bulk at most 1048576: NARROWER than '..Said'. Prove '..Said' where nothing that the law and all that it calls make is longer than what came in: it says more and counts as full. Else prove '..UptoSaid'. A law counts once. -/
mutual
def uptoBulk {H : Type} : DataW H → Nat
  | .lit (.string bytes) => bytes.length + 1
  | .lit _ => 1
  | .nil => 1
  | .ptr d => uptoBulk d + 1
  | .slice elems spare => uptoBulkAll elems + uptoBulkAll spare + 1
  | .agg parts => uptoBulkAll parts + 1
  | .iface _ d => uptoBulk d + 1
  | .map entries => uptoBulkEntries entries + 1
  | .held _ => 1
def uptoBulkAll {H : Type} : List (DataW H) → Nat
  | [] => 0
  | d :: r => uptoBulk d + uptoBulkAll r
def uptoBulkEntries {H : Type} : List (Lit × DataW H) → Nat
  | [] => 0
  | x :: r => uptoBulkEntry x + uptoBulkEntries r
def uptoBulkEntry {H : Type} : Lit × DataW H → Nat
  | (.string bytes, d) => bytes.length + uptoBulk d + 1
  | (_, d) => uptoBulk d + 1
 end
def uptoSmall : (H : Type) → List (DataW H) → Bool := fun _ ds => decide (uptoBulkAll ds ≤ 1048576)
def OpenSpec.upto (s : _root_.Go.ChangeSpec) : _root_.Go.OpenSpec := { _root_.Go.OpenSpec.ofChange s with cond := some uptoSmall }

/-- 'laws.FnTricks', WHERE WHAT IT READS IS OF BULK AT MOST 1048576: true; the input reads as it did. -/
def fnTricksUptoRow : OpenClaim := { program := "ytgnimdlakocpjaa", sum := "9e9da530155669f167c2be7fa74d39f9585ec83a0f4fa64bc8b6cbe1e97b2adf", func := "loop.example/g03010/laws.FnTricks", spec := "fnTricks", apart := false, narrowed := true }
def FnTricksUptoSaid : Prop := fnTricksUptoRow.holds Try.pinned (OpenSpec.upto fnTricksSpec)

/-- 'laws.FnExactBestFive', WHERE WHAT IT READS IS OF BULK AT MOST 1048576: true; the input reads as it did. -/
def fnExactBestFiveUptoRow : OpenClaim := { program := "ytgnimdlakocpjaa", sum := "9e9da530155669f167c2be7fa74d39f9585ec83a0f4fa64bc8b6cbe1e97b2adf", func := "loop.example/g03010/laws.FnExactBestFive", spec := "fnExactBestFive", apart := false, narrowed := true }
def FnExactBestFiveUptoSaid : Prop := fnExactBestFiveUptoRow.holds Try.pinned (OpenSpec.upto fnExactBestFiveSpec)

/-- 'laws.FnExactIsRunMeld', WHERE WHAT IT READS IS OF BULK AT MOST 1048576: true; the input reads as it did. -/
def fnExactIsRunMeldUptoRow : OpenClaim := { program := "ytgnimdlakocpjaa", sum := "9e9da530155669f167c2be7fa74d39f9585ec83a0f4fa64bc8b6cbe1e97b2adf", func := "loop.example/g03010/laws.FnExactIsRunMeld", spec := "fnExactIsRunMeld", apart := false, narrowed := true }
def FnExactIsRunMeldUptoSaid : Prop := fnExactIsRunMeldUptoRow.holds Try.pinned (OpenSpec.upto fnExactIsRunMeldSpec)

/-- 'laws.FnNotations', WHERE WHAT IT READS IS OF BULK AT MOST 1048576: true; the input reads as it did. -/
def fnNotationsUptoRow : OpenClaim := { program := "ytgnimdlakocpjaa", sum := "9e9da530155669f167c2be7fa74d39f9585ec83a0f4fa64bc8b6cbe1e97b2adf", func := "loop.example/g03010/laws.FnNotations", spec := "fnNotations", inPlace := ["internal/bytealg.IndexByteString", "internal/abi.NoEscape", "internal/bytealg.MakeNoZero"], recurses := true, apart := false, narrowed := true }
def FnNotationsUptoSaid : Prop := fnNotationsUptoRow.holds Try.pinned (OpenSpec.upto fnNotationsSpec)

/-- 'laws.FnExactDealt', WHERE WHAT IT READS IS OF BULK AT MOST 1048576: true; the input reads as it did. -/
def fnExactDealtUptoRow : OpenClaim := { program := "ytgnimdlakocpjaa", sum := "9e9da530155669f167c2be7fa74d39f9585ec83a0f4fa64bc8b6cbe1e97b2adf", func := "loop.example/g03010/laws.FnExactDealt", spec := "fnExactDealt", apart := false, narrowed := true }
def FnExactDealtUptoSaid : Prop := fnExactDealtUptoRow.holds Try.pinned (OpenSpec.upto fnExactDealtSpec)

/-- 'laws.FnExactPatternText', WHERE WHAT IT READS IS OF BULK AT MOST 1048576: true; the input reads as it did. -/
def fnExactPatternTextUptoRow : OpenClaim := { program := "ytgnimdlakocpjaa", sum := "9e9da530155669f167c2be7fa74d39f9585ec83a0f4fa64bc8b6cbe1e97b2adf", func := "loop.example/g03010/laws.FnExactPatternText", spec := "fnExactPatternText", apart := false, narrowed := true }
def FnExactPatternTextUptoSaid : Prop := fnExactPatternTextUptoRow.holds Try.pinned (OpenSpec.upto fnExactPatternTextSpec)

end Rows
end Go.Proofs.Ytgnimdlakocpjaa
