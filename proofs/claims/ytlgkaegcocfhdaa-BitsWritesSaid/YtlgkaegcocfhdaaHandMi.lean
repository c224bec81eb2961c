/- Contracts of layer 1, proved by hand: light. -/
import Derived.Test.YtlgkaegcocfhdaaHandL
namespace Go.Proofs.Ytlgkaegcocfhdaa.Hand
open Go.RowKit Go.Proofs.Ytlgkaegcocfhdaa.Q Go.Proofs.YtlgkaegcocfhdaaW.PrintWords Go.Proofs.YtlgkaegcocfhdaaW.PrintLast Go.Proofs.YtlgkaegcocfhdaaW.PrintMore
set_option linter.unusedVariables false
set_option linter.unusedSimpArgs false

theorem Fold_any (n : Int) (h0 : -9223372036854775808 ≤ n) (h1 : n ≤ 9223372036854775807) (w : World) : Calls Try.prog 12 #[.int .i64 n] w fun e w' => e = .returned (.int .u64 (foldN n)) ∧ Drawn0 w w' := by
  refine lacquerref01_Fold.calls n _ w ?_
  unfold lacquerref01_Fold.f foldN
  by_cases h : n ≥ 0
  · rw [if_pos h, if_pos (by omega)]
    congr 1
    rw [u64_wrap, u64_wrap]
    omega
  · rw [if_neg h, if_neg (by omega)]
    congr 1
    rw [u64_wrap, u64_wrap, u64_wrap]
    unfold wrap64
    omega
def lightP (k w n : Int) : Prop := (k ≠ 2 ∧ k ≠ 3) ∨ (k = 2 ∧ (n < 4000 ∨ 16777216 < n)) ∨ (k = 3 ∧ (w < 0 ∨ 30 < w ∨ foldN n / 2 ^ w.toNat < 4000 ∨ 16777216 < foldN n / 2 ^ w.toNat))
instance (k w n : Int) : Decidable (lightP k w n) := by unfold lightP; infer_instance
set_option maxHeartbeats 16000000 in
set_option maxRecDepth 100000 in
theorem light_i (k wd : Int) (n u : Int) (b2 : (k != 2) = true) (b3 : (k != 3) = true) (w : World) :
    Calls Try.prog 9 #[.agg #[.int .i64 k, .int .i64 wd, .int .i64 n, .int .u64 u]] w fun e w' => e = .returned (.bool true) ∧ Below w.heap.size w w' := by
  have HBB := Aside0.mk (fun m => (pw_below_drewN ((Below.refl w.heap.size w).alloc (Nat.le_refl _) (.cells #[.int .i64 k, .int .i64 wd, .int .i64 n, .int .u64 u] 27)) m))
  go_enter Try.func9, Try.ntmps9
  go_wp2
  go_quiet (fail)
  go_wp2
  go_ret
  exact ⟨rfl, HBB.out _⟩
end Go.Proofs.Ytlgkaegcocfhdaa.Hand
