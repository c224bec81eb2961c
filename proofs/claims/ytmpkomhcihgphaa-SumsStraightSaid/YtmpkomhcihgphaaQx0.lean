/- Printed by a program of ours (pp.sh), partly over contracts proved by hand. -/
import Derived.Test.YtmpkomhcihgphaaProg
import Derived.Below
import Derived.Deep.Draws
import Derived.Deep.AppendLies
import Derived.Maps.AppendAt
import Derived.OwnWalk
import Derived.Laws.BytesArg
import Derived.Laws.MakeOwn
import Derived.Laws.OwnMore
import Derived.Deep.OwnRows
import Derived.Tactics
import Derived.Lib.ConvBytes
import Derived.Laws.Slices
import Derived.WalkKit
import Derived.KernelRfl
import Derived.RowKit3
import Derived.Deep.LoopGhost
import Derived.Deep.QuietTactic
import Derived.BigQuiet
import Derived.WideLaws
import Derived.Deep.DeepCutAuto
import Derived.Deep.CutBlock
import Derived.Deep.RegionHeld3
import Derived.Laws.Rows
import Derived.Lib.AppendStr
import Derived.ArgAppend
import Derived.Laws.IdiomCopy
import Derived.OrdersHeld
import Derived.Laws.BitsLemmas
import Derived.RowKit
import Derived.Test.YtmpkomhcihgphaaHandM
import Derived.Test.YtmpkomhcihgphaaWWords
import Derived.Test.YtmpkomhcihgphaaWLast
import Derived.Test.YtmpkomhcihgphaaWTab
import Derived.Test.YtmpkomhcihgphaaWFour
import Derived.Test.YtmpkomhcihgphaaWQPut
import Derived.Test.YtmpkomhcihgphaaWApart
import Derived.Test.YtmpkomhcihgphaaWArr
import Derived.Test.YtmpkomhcihgphaaWZeros
import Derived.Test.YtmpkomhcihgphaaWFoot
import Derived.Test.YtmpkomhcihgphaaWKept
import Derived.Test.YtmpkomhcihgphaaWShare
import Derived.Test.YtmpkomhcihgphaaWN
import Derived.Test.YtmpkomhcihgphaaWFootNe
import Derived.Test.YtmpkomhcihgphaaWAt
import Derived.Test.YtmpkomhcihgphaaWEqStruct
import Derived.Test.YtmpkomhcihgphaaWRepsOne
import Derived.Test.YtmpkomhcihgphaaWInv
import Derived.Test.YtmpkomhcihgphaaWInvWords
import Derived.Test.YtmpkomhcihgphaaWGuard
import Derived.Test.YtmpkomhcihgphaaWNEv
import Derived.Test.YtmpkomhcihgphaaWMore
namespace Go.Proofs.Ytmpkomhcihgphaa.Q
open Go.RowKit Go.Proofs.YtmpkomhcihgphaaW.PrintWords Go.Proofs.YtmpkomhcihgphaaW.PrintLast Go.Proofs.YtmpkomhcihgphaaW.PrintMore
attribute [local go_sem] max2_int min2_int max_two min_two max_three min_three max_four min_four   -- for this text's walks alone
set_option linter.unusedVariables false
set_option linter.unusedSimpArgs false



def errW : Option Int → Value
  | none => .nilIface
  | some c => .iface 0 (.int .i64 c)
theorem errW_none : errW none = .nilIface := rfl
theorem errW_some (c : Int) : errW (some c) = .iface 0 (.int .i64 c) := rfl

theorem info3 : (Try.prog.info? 3).map (fun i => (i.zero, i.size, i.bytes)) = some (some (.int .i64 0), 1, 8) := by kernel_rfl
theorem info5 : (Try.prog.info? 5).map (fun i => (i.zero, i.size, i.bytes)) = some (some (.int .u8 0), 1, 1) := by kernel_rfl
-- the values' own types

end Go.Proofs.Ytmpkomhcihgphaa.Q
