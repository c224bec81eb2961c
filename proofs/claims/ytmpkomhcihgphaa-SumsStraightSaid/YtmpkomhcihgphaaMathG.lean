/- The plain laws of layer 3: SumsAll. -/
import Derived.Test.YtmpkomhcihgphaaMathF
namespace Go.Proofs.Ytmpkomhcihgphaa.Math
open Go.RowKit Go.Proofs.Ytmpkomhcihgphaa Go.Proofs.Ytmpkomhcihgphaa.Q Go.Proofs.YtmpkomhcihgphaaW.PrintWords Go.Proofs.YtmpkomhcihgphaaW.PrintLast Go.Proofs.YtmpkomhcihgphaaW.PrintMore
set_option linter.unusedVariables false
set_option linter.unusedSimpArgs false

theorem rbit (s : ByteArray) (b : Nat) (hb : b - 1 < 32) (P M R : B32) (i : Nat) (hi : i < (bytes s).length) (hs : s.size < 9223372036854775807) (kk : Nat) (hk : kk < 8) (v : Int)
    (next : Ev (fun k => lacquerref03_sum.l1 k s (int P) (int (BitVec.twoPow 32 (b - 1))) (int M) (int (refBit b P M R ((bytes s)[i].getLsbD kk))) (i : Int) ((kk : Int) - 1)) v) :
    Ev (fun k => lacquerref03_sum.l1 k s (int P) (int (BitVec.twoPow 32 (b - 1))) (int M) (int R) (i : Int) (kk : Int)) v := by
  refine Ev.step (fun k => lacquerref03_sum.l1.eq_2 _ _ _ _ _ _ _ _) ?_
  have hi2 := hi
  rw [bytes_length] at hi2
  simp only [show ((kk : Int) ≥ 0) by omega, show (0 : Int) ≤ (i : Int) by omega, show ((i : Int) < (s.size : Int)) by omega, u64_id (kk : Int) (by omega) (by omega), show (0 : Int) ≤ (kk : Int) by omega, if_true,
    top_bit R (b - 1) hb, bt_bits s i hi, bit_of _ kk hk, next_bits, xor64, wrap_id ((kk : Int) - 1) (by omega) (by omega)]
  revert next
  unfold refBit
  cases R.getLsbD (b - 1) <;> cases (bytes s)[i].getLsbD kk <;> simp
theorem rbyte (s : ByteArray) (b : Nat) (hb : b - 1 < 32) (P M R : B32) (i : Nat) (hi : i < (bytes s).length) (hs : s.size < 9223372036854775807) (v : Int)
    (next : Ev (fun k => lacquerref03_sum.l0 k s (int P) (int (BitVec.twoPow 32 (b - 1))) (int M) (int (refByte b P M R (bytes s)[i])) ((i : Int) + 1)) v) :
    Ev (fun k => lacquerref03_sum.l0 k s (int P) (int (BitVec.twoPow 32 (b - 1))) (int M) (int R) (i : Int)) v := by
  refine Ev.step (fun k => lacquerref03_sum.l0.eq_2 _ _ _ _ _ _ _) ?_
  have hi2 := hi
  rw [bytes_length] at hi2
  simp only [show ((i : Int) < (s.size : Int)) by omega, if_true]
  refine rbit s b hb P M _ i hi hs 7 (by decide) v ?_
  refine rbit s b hb P M _ i hi hs 6 (by decide) v ?_
  refine rbit s b hb P M _ i hi hs 5 (by decide) v ?_
  refine rbit s b hb P M _ i hi hs 4 (by decide) v ?_
  refine rbit s b hb P M _ i hi hs 3 (by decide) v ?_
  refine rbit s b hb P M _ i hi hs 2 (by decide) v ?_
  refine rbit s b hb P M _ i hi hs 1 (by decide) v ?_
  refine rbit s b hb P M _ i hi hs 0 (by decide) v ?_
  refine Ev.step (fun k => lacquerref03_sum.l1.eq_2 _ _ _ _ _ _ _ _) ?_
  simp only [show ¬ (((0 : Nat) : Int) - 1 ≥ 0) by decide, if_false, wrap_id ((i : Int) + 1) (by omega) (by omega)]
  exact next
theorem rsum (s : ByteArray) (b : Nat) (hb : b - 1 < 32) (P M : B32) (hs : s.size < 9223372036854775807) : ∀ d i : Nat, i + d = (bytes s).length → ∀ R : B32,
    Ev (fun k => lacquerref03_sum.l0 k s (int P) (int (BitVec.twoPow 32 (b - 1))) (int M) (int R) (i : Int)) (int (((bytes s).drop i).foldl (refByte b P M) R))
  | 0, i, e, R => by
    refine Ev.step (fun k => lacquerref03_sum.l0.eq_2 _ _ _ _ _ _ _) ?_
    rw [bytes_length] at e
    simp only [show ¬ ((i : Int) < (s.size : Int)) by omega, if_false]
    rw [List.drop_of_length_le (by rw [bytes_length]; omega)]
    exact Ev.now _
  | d + 1, i, e, R => by
    have hi : i < (bytes s).length := by omega
    refine rbyte s b hb P M R i hi hs _ ?_
    have := rsum s b hb P M hs d (i + 1) (by omega) (refByte b P M R (bytes s)[i])
    rw [List.drop_eq_getElem_cons hi, List.foldl_cons]
    exact this
theorem fold_mask (g r : B32 → BitVec 8 → B32) (M : B32) (h : ∀ X y, r (X &&& M) y = g X y &&& M) (l : List (BitVec 8)) : ∀ X, l.foldl r (X &&& M) = l.foldl g X &&& M := by
  induction l with
  | nil => intro X; rfl
  | cons y l ih => intro X; rw [List.foldl_cons, List.foldl_cons, h, ih]
end Go.Proofs.Ytmpkomhcihgphaa.Math
