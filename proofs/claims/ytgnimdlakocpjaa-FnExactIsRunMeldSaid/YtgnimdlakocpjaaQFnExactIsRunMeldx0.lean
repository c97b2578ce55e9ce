/- In the seat Ytgnimdlakocpjaa: what the functions compute that the law reaches, and that the machine's calls do just that; no condition beyond each contract's own. -/
import Derived.Test.YtgnimdlakocpjaaProg
import Derived.Below
import Derived.Deep.Draws
import Derived.Deep.AppendLies
import Derived.Maps.AppendAt
import Derived.OwnWalk
import Derived.Laws.BytesArg
import Derived.Laws.MakeOwn
import Derived.Laws.OwnMore
import Derived.Deep.OwnRows
import Derived.Tactics
import Derived.Lib.ConvBytes
import Derived.Laws.Slices
import Derived.WalkKit
import Derived.KernelRfl
import Derived.RowKit3
import Derived.Deep.LoopGhost
import Derived.Deep.QuietTactic
import Derived.BigQuiet
import Derived.WideLaws
import Derived.Deep.DeepCutAuto
import Derived.Deep.CutBlock
import Derived.Deep.RegionHeld3
import Derived.Laws.Rows
import Derived.Lib.AppendStr
import Derived.ArgAppend
import Derived.Laws.IdiomCopy
import Derived.OrdersHeld
import Derived.Laws.BitsLemmas
import Derived.RowKit
import Derived.Test.YtgnimdlakocpjaaArr
import Derived.Test.YtgnimdlakocpjaaCopy
import Derived.Test.YtgnimdlakocpjaaWWords
import Derived.Test.YtgnimdlakocpjaaWLast
import Derived.Test.YtgnimdlakocpjaaWTab
import Derived.Test.YtgnimdlakocpjaaWFour
import Derived.Test.YtgnimdlakocpjaaWQPut
import Derived.Test.YtgnimdlakocpjaaWApart
import Derived.Test.YtgnimdlakocpjaaWArr
import Derived.Test.YtgnimdlakocpjaaWZeros
import Derived.Test.YtgnimdlakocpjaaWFoot
import Derived.Test.YtgnimdlakocpjaaWKept
import Derived.Test.YtgnimdlakocpjaaWShare
import Derived.Test.YtgnimdlakocpjaaWN
import Derived.Test.YtgnimdlakocpjaaWFootNe
import Derived.Test.YtgnimdlakocpjaaWAt
import Derived.Test.YtgnimdlakocpjaaWEqStruct
import Derived.Test.YtgnimdlakocpjaaWRepsOne
import Derived.Test.YtgnimdlakocpjaaWInv
import Derived.Test.YtgnimdlakocpjaaWInvWords
import Derived.Test.YtgnimdlakocpjaaWGuard
import Derived.Test.YtgnimdlakocpjaaWNEv
import Derived.Test.YtgnimdlakocpjaaWMore
namespace Go.Proofs.Ytgnimdlakocpjaa.QFnExactIsRunMeld
open Go.RowKit Go.Proofs.YtgnimdlakocpjaaW.PrintWords Go.Proofs.YtgnimdlakocpjaaW.PrintLast Go.Proofs.YtgnimdlakocpjaaW.PrintMore
attribute [local go_sem] max2_int min2_int max_two min_two max_three min_three max_four min_four   -- for this text's walks alone
set_option linter.unusedVariables false
set_option linter.unusedSimpArgs false



def errW : Option Int → Value
  | none => .nilIface
  | some c => .iface 0 (.int .i64 c)
theorem errW_none : errW none = .nilIface := rfl
theorem errW_some (c : Int) : errW (some c) = .iface 0 (.int .i64 c) := rfl

theorem info3 : (Try.prog.info? 3).map (fun i => (i.zero, i.size, i.bytes)) = some (some (.int .i64 0), 1, 8) := by kernel_rfl
-- the values' own types

end Go.Proofs.Ytgnimdlakocpjaa.QFnExactIsRunMeld
