/- Contracts of layer 3, proved by hand: of, by the kind. -/
import Derived.Test.YtmpkomhcihgphaaHandJ
namespace Go.Proofs.Ytmpkomhcihgphaa.Hand
open Go.RowKit Go.Proofs.YtmpkomhcihgphaaW.PrintWords Go.Proofs.YtmpkomhcihgphaaW.PrintLast Go.Proofs.YtmpkomhcihgphaaW.PrintMore
set_option linter.unusedVariables false
set_option linter.unusedSimpArgs false

/-- A text's sum of a kind. -/
def sumF (k : Int) (s : ByteArray) : Int := if k = 8 then highF 8 7 s else if k = 16 then highF 16 32773 s else if k = 32 then highF 32 79764919 s else lowF 3988292384 s
theorem sumF_8 (s : ByteArray) : sumF 8 s = highF 8 7 s := by unfold sumF; rw [if_pos rfl]
theorem sumF_16 (s : ByteArray) : sumF 16 s = highF 16 32773 s := by unfold sumF; rw [if_neg (by decide), if_pos rfl]
theorem sumF_32 (s : ByteArray) : sumF 32 s = highF 32 79764919 s := by unfold sumF; rw [if_neg (by decide), if_neg (by decide), if_pos rfl]
theorem sumF_33 (s : ByteArray) : sumF 33 s = lowF 3988292384 s := by unfold sumF; rw [if_neg (by decide), if_neg (by decide), if_neg (by decide)]
def isKind (k : Int) : Prop := k = 8 ∨ k = 16 ∨ k = 32 ∨ k = 33
instance (k : Int) : Decidable (isKind k) := by unfold isKind; infer_instance
theorem of_any (k : Int) (hk : isKind k) (s : ByteArray) (hs : s.size ≤ maxLen) (w : World) :
    Calls Try.prog 23 #[.int .i64 k, .string s] w fun e w' => e = .returned (.int .i64 (sumF k s)) ∧ Below w.heap.size w w' := by
  rcases hk with rfl | rfl | rfl | rfl
  · rw [sumF_8]; exact of_high 8 8 7 (by decide) (by decide) 0 rfl s hs w
  · rw [sumF_16]; exact of_high 16 16 32773 (by decide) (by decide) 1 rfl s hs w
  · rw [sumF_32]; exact of_high 32 32 79764919 (by decide) (by decide) 2 rfl s hs w
  · rw [sumF_33]; exact of_low 33 32 3988292384 3 rfl s hs w
end Go.Proofs.Ytmpkomhcihgphaa.Hand
