/- Printed by a program of ours (pp.sh), partly over contracts proved by hand. -/
import Derived.Test.YtoologbaoifheaaProg
import Derived.Below
import Derived.Deep.Draws
import Derived.Deep.AppendLies
import Derived.Maps.AppendAt
import Derived.OwnWalk
import Derived.Laws.BytesArg
import Derived.Laws.MakeOwn
import Derived.Laws.OwnMore
import Derived.Deep.OwnRows
import Derived.Tactics
import Derived.Lib.ConvBytes
import Derived.Laws.Slices
import Derived.WalkKit
import Derived.KernelRfl
import Derived.RowKit3
import Derived.Deep.LoopGhost
import Derived.Deep.QuietTactic
import Derived.BigQuiet
import Derived.WideLaws
import Derived.Deep.DeepCutAuto
import Derived.Deep.CutBlock
import Derived.Deep.RegionHeld3
import Derived.Laws.Rows
import Derived.Lib.AppendStr
import Derived.ArgAppend
import Derived.Laws.IdiomCopy
import Derived.OrdersHeld
import Derived.Laws.BitsLemmas
import Derived.RowKit
import Derived.Test.YtoologbaoifheaaWWords
import Derived.Test.YtoologbaoifheaaWLast
import Derived.Test.YtoologbaoifheaaWTab
import Derived.Test.YtoologbaoifheaaWFour
import Derived.Test.YtoologbaoifheaaWQPut
import Derived.Test.YtoologbaoifheaaWApart
import Derived.Test.YtoologbaoifheaaWArr
import Derived.Test.YtoologbaoifheaaWZeros
import Derived.Test.YtoologbaoifheaaWFoot
import Derived.Test.YtoologbaoifheaaWKept
import Derived.Test.YtoologbaoifheaaWShare
import Derived.Test.YtoologbaoifheaaWN
import Derived.Test.YtoologbaoifheaaWFootNe
import Derived.Test.YtoologbaoifheaaWAt
import Derived.Test.YtoologbaoifheaaWEqStruct
import Derived.Test.YtoologbaoifheaaWRepsOne
import Derived.Test.YtoologbaoifheaaWInv
import Derived.Test.YtoologbaoifheaaWInvWords
import Derived.Test.YtoologbaoifheaaWGuard
import Derived.Test.YtoologbaoifheaaWNEv
import Derived.Test.YtoologbaoifheaaWMore
namespace Go.Proofs.Ytoologbaoifheaa.Q
open Go.RowKit Go.Proofs.YtoologbaoifheaaW.PrintWords Go.Proofs.YtoologbaoifheaaW.PrintLast Go.Proofs.YtoologbaoifheaaW.PrintMore
attribute [local go_sem] max2_int min2_int max_two min_two max_three min_three max_four min_four   -- for this text's walks alone
set_option linter.unusedVariables false
set_option linter.unusedSimpArgs false



def errW : Option Int → Value
  | none => .nilIface
  | some c => .iface 0 (.int .i64 c)
theorem errW_none : errW none = .nilIface := rfl
theorem errW_some (c : Int) : errW (some c) = .iface 0 (.int .i64 c) := rfl

theorem info3 : (Try.prog.info? 3).map (fun i => (i.zero, i.size, i.bytes)) = some (some (.int .i64 0), 1, 8) := by kernel_rfl
-- the values' own types

end Go.Proofs.Ytoologbaoifheaa.Q
