/- Contracts of layer 1, proved by hand: light. -/
import Derived.Test.YtlgkaegcocfhdaaHandL
namespace Go.Proofs.Ytlgkaegcocfhdaa.Hand
open Go.RowKit Go.Proofs.Ytlgkaegcocfhdaa.Q Go.Proofs.YtlgkaegcocfhdaaW.PrintWords Go.Proofs.YtlgkaegcocfhdaaW.PrintLast Go.Proofs.YtlgkaegcocfhdaaW.PrintMore
set_option linter.unusedVariables false
set_option linter.unusedSimpArgs false

set_option maxHeartbeats 16000000 in
set_option maxRecDepth 100000 in
theorem light_h (K : Nat) (n u : Int) (q fi : Nat) (HF : Aside0 (∀ W, Calls Try.prog 12 #[.int .i64 n] W fun e w' => e = .returned (.int .u64 fi) ∧ ∃ m, w' = W.drewN m)) (hd : (fi : Int) / 2 ^ K = (q : Int)) (hK : (K : Int) ≤ 30) (hc : decide ((q : Int) < 4000) = false) (hc2 : decide (16777216 < (q : Int)) = false) (w : World) :
    Calls Try.prog 9 #[.agg #[.int .i64 3, .int .i64 K, .int .i64 n, .int .u64 u]] w fun e w' => e = .returned (.bool false) ∧ Below w.heap.size w w' := by
  have HBB := Aside0.mk (fun m => (pw_below_drewN ((Below.refl w.heap.size w).alloc (Nat.le_refl _) (.cells #[.int .i64 3, .int .i64 K, .int .i64 n, .int .u64 u] 27)) m))
  have hK0 : (0 : Int) ≤ (K : Int) := by omega
  have hb0 : decide ((K : Int) < 0) = false := decide_eq_false (by omega)
  have hb1 : decide (30 < (K : Int)) = false := decide_eq_false (by omega)
  go_enter Try.func9, Try.ntmps9
  go_wp2
  go_big_quiet ((go_at_call 12; exact Calls.quiet_of (HF.out _)))
  go_wp2
  go_ret
  exact ⟨rfl, HBB.out _⟩
end Go.Proofs.Ytlgkaegcocfhdaa.Hand
