/- Printed by a program of ours (pp.sh), partly over contracts proved by hand. -/
import Derived.Test.YtbbedocehejfgaaProg
import Derived.Below
import Derived.Deep.Draws
import Derived.Deep.AppendLies
import Derived.Maps.AppendAt
import Derived.OwnWalk
import Derived.Laws.BytesArg
import Derived.Laws.MakeOwn
import Derived.Laws.OwnMore
import Derived.Deep.OwnRows
import Derived.Tactics
import Derived.Lib.ConvBytes
import Derived.Laws.Slices
import Derived.WalkKit
import Derived.KernelRfl
import Derived.RowKit3
import Derived.Deep.LoopGhost
import Derived.Deep.QuietTactic
import Derived.BigQuiet
import Derived.WideLaws
import Derived.Deep.DeepCutAuto
import Derived.Deep.CutBlock
import Derived.Deep.RegionHeld3
import Derived.Laws.Rows
import Derived.Lib.AppendStr
import Derived.ArgAppend
import Derived.Laws.IdiomCopy
import Derived.OrdersHeld
import Derived.Laws.BitsLemmas
import Derived.RowKit
import Derived.Test.YtbbedocehejfgaaHandG
import Derived.Test.YtbbedocehejfgaaWWords
import Derived.Test.YtbbedocehejfgaaWLast
import Derived.Test.YtbbedocehejfgaaWTab
import Derived.Test.YtbbedocehejfgaaWFour
import Derived.Test.YtbbedocehejfgaaWQPut
import Derived.Test.YtbbedocehejfgaaWApart
import Derived.Test.YtbbedocehejfgaaWArr
import Derived.Test.YtbbedocehejfgaaWZeros
import Derived.Test.YtbbedocehejfgaaWFoot
import Derived.Test.YtbbedocehejfgaaWKept
import Derived.Test.YtbbedocehejfgaaWShare
import Derived.Test.YtbbedocehejfgaaWN
import Derived.Test.YtbbedocehejfgaaWFootNe
import Derived.Test.YtbbedocehejfgaaWAt
import Derived.Test.YtbbedocehejfgaaWEqStruct
import Derived.Test.YtbbedocehejfgaaWRepsOne
import Derived.Test.YtbbedocehejfgaaWInv
import Derived.Test.YtbbedocehejfgaaWInvWords
import Derived.Test.YtbbedocehejfgaaWGuard
import Derived.Test.YtbbedocehejfgaaWNEv
import Derived.Test.YtbbedocehejfgaaWMore
namespace Go.Proofs.Ytbbedocehejfgaa.T
open Go.RowKit Go.Proofs.YtbbedocehejfgaaW.PrintWords Go.Proofs.YtbbedocehejfgaaW.PrintLast Go.Proofs.YtbbedocehejfgaaW.PrintMore
attribute [local go_sem] max2_int min2_int max_two min_two max_three min_three max_four min_four   -- for this text's walks alone
set_option linter.unusedVariables false
set_option linter.unusedSimpArgs false



def errW : Option Int → Value
  | none => .nilIface
  | some c => .iface 0 (.int .i64 c)
theorem errW_none : errW none = .nilIface := rfl
theorem errW_some (c : Int) : errW (some c) = .iface 0 (.int .i64 c) := rfl

theorem info3 : (Try.prog.info? 3).map (fun i => (i.zero, i.size, i.bytes)) = some (some (.int .i64 0), 1, 8) := by kernel_rfl
-- the values' own types

end Go.Proofs.Ytbbedocehejfgaa.T
