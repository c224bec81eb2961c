/- Contracts of layer 3, proved by hand: New. -/
import Derived.Test.YtmpkomhcihgphaaHandC
namespace Go.Proofs.Ytmpkomhcihgphaa.Hand
open Go.RowKit Go.Proofs.YtmpkomhcihgphaaW.PrintWords Go.Proofs.YtmpkomhcihgphaaW.PrintLast Go.Proofs.YtmpkomhcihgphaaW.PrintMore
set_option linter.unusedVariables false
set_option linter.unusedSimpArgs false

/-- A sum's cells. -/
def sumCells (b p : Int) (low : Bool) (f : Nat → Int) (n : Int) : Array Value := (.int .i64 b :: .int .i64 p :: .bool low :: ((List.range 256).map (fun j => Value.int .u32 (f j)) ++ [.int .u32 n])).toArray
set_option maxRecDepth 100000 in
set_option maxHeartbeats 4000000 in
theorem sum_built (b p : Int) (low : Bool) (f : Nat → Int) : Try.prog.built 50 [(0, .agg #[.int .i64 b, .int .i64 p, .bool low]), (1, .agg (cells256 f))] = some (sumCells b p low f 0) := by kernel_rfl
end Go.Proofs.Ytmpkomhcihgphaa.Hand
