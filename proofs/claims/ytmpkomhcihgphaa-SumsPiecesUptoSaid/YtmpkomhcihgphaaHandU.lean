/- What the bound of SumsPieces' second form gives: the texts' sizes together. -/
import Derived.Test.YtmpkomhcihgphaaRows
import Derived.Test.YtmpkomhcihgphaaHandP
namespace Go.Proofs.Ytmpkomhcihgphaa.Hand
open Go.RowKit

theorem bulk_append {H : Type} (l r : List (DataW H)) : Rows.uptoBulkAll (l ++ r) = Rows.uptoBulkAll l + Rows.uptoBulkAll r := by
  induction l with
  | nil => simp [Rows.uptoBulkAll]
  | cons x l ih => simp only [List.cons_append, Rows.uptoBulkAll, ih]; omega
theorem cat_bulk {H : Type} (S : Nat → ByteArray) : ∀ d, Rows.uptoBulkAll ((List.range d).map fun j => (DataW.lit (.string (S j).data.toList) : DataW H)) = (cat S d).size + d
  | 0 => by simp [Rows.uptoBulkAll, cat]; rfl
  | d + 1 => by
    rw [List.range_succ, List.map_append, bulk_append, cat_bulk S d, cat, ByteArray.size_append]
    simp [Rows.uptoBulkAll, Rows.uptoBulk]
    omega
theorem cat_mono (S : Nat → ByteArray) (d : Nat) : ∀ n, d ≤ n → (cat S d).size ≤ (cat S n).size
  | 0, h => by
    obtain rfl : d = 0 := by omega
    exact Nat.le_refl _
  | n + 1, h => by
    by_cases e : d = n + 1
    · subst e; exact Nat.le_refl _
    · have := cat_mono S d n (by omega)
      rw [cat, ByteArray.size_append]
      omega
theorem cat_up {H : Type} (S : Nat → ByteArray) (n : Nat) (A : Option Addr) (sp : List (DataW H)) (d0 : DataW H) (a : Int) (D : d0 = (if n = 0 ∧ A = none then .nil else .slice ((List.range n).map fun j => .lit (.string (S j).data.toList)) sp))
    (h : Rows.uptoBulkAll [d0, .lit (.int .i64 a)] ≤ 1048576) : n ≤ 1048576 ∧ ∀ d, d ≤ n → (cat S d).size ≤ 1048576 := by
  by_cases e : n = 0 ∧ A = none
  · obtain ⟨rfl, _⟩ := e
    refine ⟨by omega, fun d hd => ?_⟩
    obtain rfl : d = 0 := by omega
    exact (by decide : nought.size ≤ 1048576)
  · rw [if_neg e] at D
    subst D
    simp only [Rows.uptoBulkAll, Rows.uptoBulk, cat_bulk] at h
    refine ⟨by omega, fun d hd => ?_⟩
    have := cat_mono S d n hd
    omega
end Go.Proofs.Ytmpkomhcihgphaa.Hand
