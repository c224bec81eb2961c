/- Contracts of layer 3, proved by hand: Add and Value. -/
import Derived.Test.YtmpkomhcihgphaaHandF
namespace Go.Proofs.Ytmpkomhcihgphaa.Hand
open Go.RowKit Go.Proofs.YtmpkomhcihgphaaW.PrintWords Go.Proofs.YtmpkomhcihgphaaW.PrintLast Go.Proofs.YtmpkomhcihgphaaW.PrintMore
set_option linter.unusedVariables false
set_option linter.unusedSimpArgs false

/-- What a sum's numbers tell. -/
def valH (b n : Int) : Int := Go.bits .and .i64 (wrap64 n) (wrap64 (wrap64 (2 ^ b.toNat) - 1))
def valL (n : Int) : Int := wrap64 (Go.bits .xor .u32 IntKind.u32.max n)
set_option maxHeartbeats 4000000 in
set_option maxRecDepth 100000 in
theorem Value_high (b p n : Int) (hb : 8 ≤ b) (hb2 : b ≤ 32) (g : Nat) (w : World) (h : SumAt w g b p false n) :
    Calls Try.prog 19 #[.pointer (some ⟨g, 0, none⟩)] w fun e w' => e = .returned (.int .i64 (valH b n)) ∧ Drawn0 w w' := by
  have hup := Try.underlying26
  have c0 : w.cell? ⟨g, 0, none⟩ = some (.int .i64 b) := blk_cell h 0
  have c2 : w.cell? ⟨g, 2, none⟩ = some (.bool false) := blk_cell h 2
  have cn : w.cell? ⟨g, 259, none⟩ = some (.int .u32 n) := (blk_cell h 259).trans (sum_n b p false _ n)
  clear h
  go_enter Try.func19, Try.ntmps19
  go_wp2
  go_quiet (fail)
  go_wp2
  go_ret
  exact ⟨rfl, by repeat (first | exact Drawn0.refl _ | apply Drawn0.step)⟩
set_option maxHeartbeats 4000000 in
set_option maxRecDepth 100000 in
theorem Value_low (b p n : Int) (g : Nat) (w : World) (h : SumAt w g b p true n) :
    Calls Try.prog 19 #[.pointer (some ⟨g, 0, none⟩)] w fun e w' => e = .returned (.int .i64 (valL n)) ∧ Drawn0 w w' := by
  have hup := Try.underlying26
  have c2 : w.cell? ⟨g, 2, none⟩ = some (.bool true) := blk_cell h 2
  have cn : w.cell? ⟨g, 259, none⟩ = some (.int .u32 n) := (blk_cell h 259).trans (sum_n b p true _ n)
  clear h
  go_enter Try.func19, Try.ntmps19
  go_wp2
  go_ret
  exact ⟨rfl, by repeat (first | exact Drawn0.refl _ | apply Drawn0.step)⟩
set_option maxHeartbeats 4000000 in
set_option maxRecDepth 100000 in
theorem Value_nil (w : World) :
    Calls Try.prog 19 #[.pointer none] w fun e w' => e = .returned (.int .i64 0) ∧ Drawn0 w w' := by
  have hup := Try.underlying26
  go_enter Try.func19, Try.ntmps19
  go_wp2
  go_ret
  exact ⟨rfl, Drawn0.refl _⟩
set_option maxHeartbeats 4000000 in
set_option maxRecDepth 100000 in
theorem Add_nil (s : ByteArray) (w : World) :
    Calls Try.prog 20 #[.pointer none, .string s] w fun e w' => e = .returned (.tuple #[]) ∧ Drawn0 w w' := by
  have hup := Try.underlying26
  go_enter Try.func20, Try.ntmps20
  go_wp2
  refine bodyPost_ret (results_none rfl _ _ _) rfl ?_
  exact ⟨rfl, Drawn0.refl _⟩
end Go.Proofs.Ytmpkomhcihgphaa.Hand
