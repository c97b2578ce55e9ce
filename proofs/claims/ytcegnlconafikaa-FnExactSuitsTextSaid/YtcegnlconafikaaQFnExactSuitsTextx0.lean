/- In the seat Ytcegnlconafikaa: what the functions compute that the law reaches, and that the machine's calls do just that; no condition beyond each contract's own. -/
import Derived.Test.YtcegnlconafikaaProg
import Derived.Below
import Derived.Deep.Draws
import Derived.Deep.AppendLies
import Derived.Maps.AppendAt
import Derived.OwnWalk
import Derived.Laws.BytesArg
import Derived.Laws.MakeOwn
import Derived.Laws.OwnMore
import Derived.Deep.OwnRows
import Derived.Tactics
import Derived.Lib.ConvBytes
import Derived.Laws.Slices
import Derived.WalkKit
import Derived.KernelRfl
import Derived.RowKit3
import Derived.Deep.LoopGhost
import Derived.Deep.QuietTactic
import Derived.BigQuiet
import Derived.WideLaws
import Derived.Deep.DeepCutAuto
import Derived.Deep.CutBlock
import Derived.Deep.RegionHeld3
import Derived.Laws.Rows
import Derived.Lib.AppendStr
import Derived.ArgAppend
import Derived.Laws.IdiomCopy
import Derived.OrdersHeld
import Derived.Laws.BitsLemmas
import Derived.RowKit
import Derived.Test.YtcegnlconafikaaArr
import Derived.Test.YtcegnlconafikaaCopy
import Derived.Test.YtcegnlconafikaaShelf
import Derived.Test.YtcegnlconafikaaWWords
import Derived.Test.YtcegnlconafikaaWLast
import Derived.Test.YtcegnlconafikaaWTab
import Derived.Test.YtcegnlconafikaaWFour
import Derived.Test.YtcegnlconafikaaWQPut
import Derived.Test.YtcegnlconafikaaWApart
import Derived.Test.YtcegnlconafikaaWArr
import Derived.Test.YtcegnlconafikaaWZeros
import Derived.Test.YtcegnlconafikaaWFoot
import Derived.Test.YtcegnlconafikaaWKept
import Derived.Test.YtcegnlconafikaaWShare
import Derived.Test.YtcegnlconafikaaWN
import Derived.Test.YtcegnlconafikaaWFootNe
import Derived.Test.YtcegnlconafikaaWAt
import Derived.Test.YtcegnlconafikaaWEqStruct
import Derived.Test.YtcegnlconafikaaWRepsOne
import Derived.Test.YtcegnlconafikaaWInv
import Derived.Test.YtcegnlconafikaaWInvWords
import Derived.Test.YtcegnlconafikaaWGuard
import Derived.Test.YtcegnlconafikaaWNEv
import Derived.Test.YtcegnlconafikaaWMore
namespace Go.Proofs.Ytcegnlconafikaa.QFnExactSuitsText
open Go.RowKit Go.Proofs.YtcegnlconafikaaW.PrintWords Go.Proofs.YtcegnlconafikaaW.PrintLast Go.Proofs.YtcegnlconafikaaW.PrintMore
attribute [local go_sem] max2_int min2_int max_two min_two max_three min_three max_four min_four   -- for this text's walks alone
set_option linter.unusedVariables false
set_option linter.unusedSimpArgs false



def errW : Option Int → Value
  | none => .nilIface
  | some c => .iface 0 (.int .i64 c)
theorem errW_none : errW none = .nilIface := rfl
theorem errW_some (c : Int) : errW (some c) = .iface 0 (.int .i64 c) := rfl

theorem info3 : (Try.prog.info? 3).map (fun i => (i.zero, i.size, i.bytes)) = some (some (.int .i64 0), 1, 8) := by kernel_rfl
theorem info9 : (Try.prog.info? 9).map (fun i => (i.zero, i.size, i.bytes)) = some (some (.string ⟨#[]⟩), 1, 16) := by kernel_rfl
-- the values' own types

end Go.Proofs.Ytcegnlconafikaa.QFnExactSuitsText
