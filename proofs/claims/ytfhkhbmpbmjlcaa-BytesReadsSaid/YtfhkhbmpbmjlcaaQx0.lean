/- Printed by a program of ours (pp.sh), partly over contracts proved by hand. -/
import Derived.Test.YtfhkhbmpbmjlcaaProg
import Derived.Below
import Derived.Deep.Draws
import Derived.Deep.AppendLies
import Derived.Maps.AppendAt
import Derived.OwnWalk
import Derived.Laws.BytesArg
import Derived.Laws.MakeOwn
import Derived.Laws.OwnMore
import Derived.Deep.OwnRows
import Derived.Tactics
import Derived.Lib.ConvBytes
import Derived.Laws.Slices
import Derived.WalkKit
import Derived.KernelRfl
import Derived.RowKit3
import Derived.Deep.LoopGhost
import Derived.Deep.QuietTactic
import Derived.BigQuiet
import Derived.WideLaws
import Derived.Deep.DeepCutAuto
import Derived.Deep.CutBlock
import Derived.Deep.RegionHeld3
import Derived.Laws.Rows
import Derived.Lib.AppendStr
import Derived.ArgAppend
import Derived.Laws.IdiomCopy
import Derived.OrdersHeld
import Derived.Laws.BitsLemmas
import Derived.RowKit
import Derived.Test.YtfhkhbmpbmjlcaaHand
import Derived.Test.YtfhkhbmpbmjlcaaShelf
import Derived.Test.YtfhkhbmpbmjlcaaWWords
import Derived.Test.YtfhkhbmpbmjlcaaWLast
import Derived.Test.YtfhkhbmpbmjlcaaWTab
import Derived.Test.YtfhkhbmpbmjlcaaWFour
import Derived.Test.YtfhkhbmpbmjlcaaWQPut
import Derived.Test.YtfhkhbmpbmjlcaaWApart
import Derived.Test.YtfhkhbmpbmjlcaaWArr
import Derived.Test.YtfhkhbmpbmjlcaaWZeros
import Derived.Test.YtfhkhbmpbmjlcaaWFoot
import Derived.Test.YtfhkhbmpbmjlcaaWKept
import Derived.Test.YtfhkhbmpbmjlcaaWShare
import Derived.Test.YtfhkhbmpbmjlcaaWN
import Derived.Test.YtfhkhbmpbmjlcaaWFootNe
import Derived.Test.YtfhkhbmpbmjlcaaWAt
import Derived.Test.YtfhkhbmpbmjlcaaWEqStruct
import Derived.Test.YtfhkhbmpbmjlcaaWRepsOne
import Derived.Test.YtfhkhbmpbmjlcaaWInv
import Derived.Test.YtfhkhbmpbmjlcaaWInvWords
import Derived.Test.YtfhkhbmpbmjlcaaWGuard
import Derived.Test.YtfhkhbmpbmjlcaaWNEv
import Derived.Test.YtfhkhbmpbmjlcaaWMore
namespace Go.Proofs.Ytfhkhbmpbmjlcaa.Q
open Go.RowKit Go.Proofs.YtfhkhbmpbmjlcaaW.PrintWords Go.Proofs.YtfhkhbmpbmjlcaaW.PrintLast Go.Proofs.YtfhkhbmpbmjlcaaW.PrintMore
attribute [local go_sem high] Go.Proofs.Ytfhkhbmpbmjlcaa.Hand.xor_u8
attribute [local go_sem] max2_int min2_int max_two min_two max_three min_three max_four min_four   -- for this text's walks alone
set_option linter.unusedVariables false
set_option linter.unusedSimpArgs false



def errW : Option Int → Value
  | none => .nilIface
  | some c => .iface 0 (.int .i64 c)
theorem errW_none : errW none = .nilIface := rfl
theorem errW_some (c : Int) : errW (some c) = .iface 0 (.int .i64 c) := rfl

theorem info5 : (Try.prog.info? 5).map (fun i => (i.zero, i.size, i.bytes)) = some (some (.int .u8 0), 1, 1) := by kernel_rfl
-- the values' own types

end Go.Proofs.Ytfhkhbmpbmjlcaa.Q
