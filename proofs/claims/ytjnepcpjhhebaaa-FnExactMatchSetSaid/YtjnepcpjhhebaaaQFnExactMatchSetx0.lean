/- In the seat Ytjnepcpjhhebaaa: what the functions compute that the law reaches, and that the machine's calls do just that; no condition beyond each contract's own. -/
import Derived.Test.YtjnepcpjhhebaaaProg
import Derived.Below
import Derived.Deep.Draws
import Derived.Deep.AppendLies
import Derived.Maps.AppendAt
import Derived.OwnWalk
import Derived.Laws.BytesArg
import Derived.Laws.MakeOwn
import Derived.Laws.OwnMore
import Derived.Deep.OwnRows
import Derived.Tactics
import Derived.Lib.ConvBytes
import Derived.Laws.Slices
import Derived.WalkKit
import Derived.KernelRfl
import Derived.RowKit3
import Derived.Deep.LoopGhost
import Derived.Deep.QuietTactic
import Derived.BigQuiet
import Derived.WideLaws
import Derived.Deep.DeepCutAuto
import Derived.Deep.CutBlock
import Derived.Deep.RegionHeld3
import Derived.Laws.Rows
import Derived.Lib.AppendStr
import Derived.ArgAppend
import Derived.Laws.IdiomCopy
import Derived.OrdersHeld
import Derived.Laws.BitsLemmas
import Derived.RowKit
import Derived.Test.YtjnepcpjhhebaaaArr
import Derived.Test.YtjnepcpjhhebaaaCopy
import Derived.Test.YtjnepcpjhhebaaaWWords
import Derived.Test.YtjnepcpjhhebaaaWLast
import Derived.Test.YtjnepcpjhhebaaaWTab
import Derived.Test.YtjnepcpjhhebaaaWFour
import Derived.Test.YtjnepcpjhhebaaaWQPut
import Derived.Test.YtjnepcpjhhebaaaWApart
import Derived.Test.YtjnepcpjhhebaaaWArr
import Derived.Test.YtjnepcpjhhebaaaWZeros
import Derived.Test.YtjnepcpjhhebaaaWFoot
import Derived.Test.YtjnepcpjhhebaaaWKept
import Derived.Test.YtjnepcpjhhebaaaWShare
import Derived.Test.YtjnepcpjhhebaaaWN
import Derived.Test.YtjnepcpjhhebaaaWFootNe
import Derived.Test.YtjnepcpjhhebaaaWAt
import Derived.Test.YtjnepcpjhhebaaaWEqStruct
import Derived.Test.YtjnepcpjhhebaaaWRepsOne
import Derived.Test.YtjnepcpjhhebaaaWInv
import Derived.Test.YtjnepcpjhhebaaaWInvWords
import Derived.Test.YtjnepcpjhhebaaaWGuard
import Derived.Test.YtjnepcpjhhebaaaWNEv
import Derived.Test.YtjnepcpjhhebaaaWMore
namespace Go.Proofs.Ytjnepcpjhhebaaa.QFnExactMatchSet
open Go.RowKit Go.Proofs.YtjnepcpjhhebaaaW.PrintWords Go.Proofs.YtjnepcpjhhebaaaW.PrintLast Go.Proofs.YtjnepcpjhhebaaaW.PrintMore
attribute [local go_sem] max2_int min2_int max_two min_two max_three min_three max_four min_four   -- for this text's walks alone
set_option linter.unusedVariables false
set_option linter.unusedSimpArgs false



def errW : Option Int → Value
  | none => .nilIface
  | some c => .iface 0 (.int .i64 c)
theorem errW_none : errW none = .nilIface := rfl
theorem errW_some (c : Int) : errW (some c) = .iface 0 (.int .i64 c) := rfl

theorem info3 : (Try.prog.info? 3).map (fun i => (i.zero, i.size, i.bytes)) = some (some (.int .i64 0), 1, 8) := by kernel_rfl
theorem info4 : (Try.prog.info? 4).map (fun i => (i.zero, i.size, i.bytes)) = some (some (.bool false), 1, 1) := by kernel_rfl
-- the values' own types

end Go.Proofs.Ytjnepcpjhhebaaa.QFnExactMatchSet
