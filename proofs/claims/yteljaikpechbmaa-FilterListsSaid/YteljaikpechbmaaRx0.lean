/- Printed by a program of ours (pp.sh), partly over contracts proved by hand. -/
import Derived.Test.YteljaikpechbmaaProg
import Derived.Below
import Derived.Deep.Draws
import Derived.Deep.AppendLies
import Derived.Maps.AppendAt
import Derived.OwnWalk
import Derived.Laws.BytesArg
import Derived.Laws.MakeOwn
import Derived.Laws.OwnMore
import Derived.Deep.OwnRows
import Derived.Tactics
import Derived.Lib.ConvBytes
import Derived.Laws.Slices
import Derived.WalkKit
import Derived.KernelRfl
import Derived.RowKit3
import Derived.Deep.LoopGhost
import Derived.Deep.QuietTactic
import Derived.BigQuiet
import Derived.WideLaws
import Derived.Deep.DeepCutAuto
import Derived.Deep.CutBlock
import Derived.Deep.RegionHeld3
import Derived.Laws.Rows
import Derived.Lib.AppendStr
import Derived.ArgAppend
import Derived.Laws.IdiomCopy
import Derived.OrdersHeld
import Derived.Laws.BitsLemmas
import Derived.RowKit
import Derived.Test.YteljaikpechbmaaHandV
import Derived.Test.YteljaikpechbmaaMathC
import Derived.Test.YteljaikpechbmaaWWords
import Derived.Test.YteljaikpechbmaaWLast
import Derived.Test.YteljaikpechbmaaWTab
import Derived.Test.YteljaikpechbmaaWFour
import Derived.Test.YteljaikpechbmaaWQPut
import Derived.Test.YteljaikpechbmaaWApart
import Derived.Test.YteljaikpechbmaaWArr
import Derived.Test.YteljaikpechbmaaWZeros
import Derived.Test.YteljaikpechbmaaWFoot
import Derived.Test.YteljaikpechbmaaWKept
import Derived.Test.YteljaikpechbmaaWShare
import Derived.Test.YteljaikpechbmaaWN
import Derived.Test.YteljaikpechbmaaWFootNe
import Derived.Test.YteljaikpechbmaaWAt
import Derived.Test.YteljaikpechbmaaWEqStruct
import Derived.Test.YteljaikpechbmaaWRepsOne
import Derived.Test.YteljaikpechbmaaWInv
import Derived.Test.YteljaikpechbmaaWInvWords
import Derived.Test.YteljaikpechbmaaWGuard
import Derived.Test.YteljaikpechbmaaWNEv
import Derived.Test.YteljaikpechbmaaWMore
namespace Go.Proofs.Yteljaikpechbmaa.R
open Go.RowKit Go.Proofs.YteljaikpechbmaaW.PrintWords Go.Proofs.YteljaikpechbmaaW.PrintLast Go.Proofs.YteljaikpechbmaaW.PrintMore
attribute [local go_sem] max2_int min2_int max_two min_two max_three min_three max_four min_four   -- for this text's walks alone
set_option linter.unusedVariables false
set_option linter.unusedSimpArgs false



def errW : Option Int → Value
  | none => .nilIface
  | some c => .iface 0 (.int .i64 c)
theorem errW_none : errW none = .nilIface := rfl
theorem errW_some (c : Int) : errW (some c) = .iface 0 (.int .i64 c) := rfl

theorem info3 : (Try.prog.info? 3).map (fun i => (i.zero, i.size, i.bytes)) = some (some (.int .i64 0), 1, 8) := by kernel_rfl
-- the values' own types

end Go.Proofs.Yteljaikpechbmaa.R
