/- Contracts of layer 1, proved by hand: light. -/
import Derived.Test.YtlgkaegcocfhdaaHandL
namespace Go.Proofs.Ytlgkaegcocfhdaa.Hand
open Go.RowKit Go.Proofs.Ytlgkaegcocfhdaa.Q Go.Proofs.YtlgkaegcocfhdaaW.PrintWords Go.Proofs.YtlgkaegcocfhdaaW.PrintLast Go.Proofs.YtlgkaegcocfhdaaW.PrintMore
set_option linter.unusedVariables false
set_option linter.unusedSimpArgs false

set_option maxHeartbeats 16000000 in
set_option maxRecDepth 100000 in
theorem light_a (wd : Int) (n u : Int) (ha : decide (n < 4000) = true) (w : World) :
    Calls Try.prog 9 #[.agg #[.int .i64 2, .int .i64 wd, .int .i64 n, .int .u64 u]] w fun e w' => e = .returned (.bool true) ∧ Below w.heap.size w w' := by
  have HBB := Aside0.mk (fun m => (pw_below_drewN ((Below.refl w.heap.size w).alloc (Nat.le_refl _) (.cells #[.int .i64 2, .int .i64 wd, .int .i64 n, .int .u64 u] 27)) m))
  go_enter Try.func9, Try.ntmps9
  go_wp2
  go_quiet (fail)
  go_wp2
  go_ret
  exact ⟨rfl, HBB.out _⟩
end Go.Proofs.Ytlgkaegcocfhdaa.Hand
