/- Plain words of layer 1: the reference's reader gives what the reader gives. -/
import Derived.Test.YtlgkaegcocfhdaaHandN
import Derived.Test.YtlgkaegcocfhdaaQx2
namespace Go.Proofs.Ytlgkaegcocfhdaa.Hand
open Go.RowKit Go.Proofs.Ytlgkaegcocfhdaa.Q Go.Proofs.YtlgkaegcocfhdaaW.PrintWords Go.Proofs.YtlgkaegcocfhdaaW.PrintLast Go.Proofs.YtlgkaegcocfhdaaW.PrintMore
set_option linter.unusedVariables false
set_option linter.unusedSimpArgs false

theorem bt_nat (s : ByteArray) (j : Nat) (h : j < s.size) : bt s (j : Int) = ((s[j]'h).toNat : Int) := by
  unfold bt
  rw [dif_pos (by simpa using h)]
  rfl
theorem rbit (s : ByteArray) (hs : s.size ≤ 281474976710656) (p : Int) (q : Nat) (hq : q < 8 * s.size) : lacquerref01_R_bit.f s p (q : Int) = some (((tb s q).toNat : Int), s, p) := by
  have hj : q / 8 < s.size := by omega
  have e1 : wrap64 (Int.tdiv (q : Int) 8) = ((q / 8 : Nat) : Int) := by
    rw [Int.tdiv_eq_ediv_of_nonneg (by omega), wrap_id _ (by omega) (by omega)]; omega
  have e2 : IntKind.u64.wrap (wrap64 (7 - Int.tmod (q : Int) 8)) = ((7 - q % 8 : Nat) : Int) := by
    rw [Int.tmod_eq_emod_of_nonneg (by omega), wrap_id _ (by omega) (by omega), u64_wrap]; omega
  have hp := peek_bit s q (q / 8) (q % 8) hj rfl rfl
  have hlt : (s[q / 8]'hj).toNat < 256 := (s[q / 8]'hj).toNat_lt
  have e3 : shr .u8 (bt s ((q / 8 : Nat) : Int)) ((7 - q % 8 : Nat) : Int) = ((s[q / 8]'hj).toNat : Int) / 2 ^ (7 - q % 8) := by
    unfold shr
    rw [bt_nat s _ hj, Int.toNat_natCast, Nat.min_eq_left (by simp [IntKind.bits]; omega)]
  have e4 : ((s[q / 8]'hj).toNat : Int) / 2 ^ (7 - q % 8) = (((s[q / 8]'hj).toNat / 2 ^ (7 - q % 8) : Nat) : Int) := by simp
  have hle : (s[q / 8]'hj).toNat / 2 ^ (7 - q % 8) ≤ (s[q / 8]'hj).toNat := Nat.div_le_self _ _
  unfold lacquerref01_R_bit.f
  rw [e1, if_pos (by omega), if_pos (by omega), e2, if_pos (by omega), e3]
  rw [e4] at hp ⊢
  generalize (s[q / 8]'hj).toNat / 2 ^ (7 - q % 8) = y at hp hle ⊢
  rw [and_mask_u64 1 (by decide) _ 1 (by omega) (by omega) rfl] at hp
  rw [wrap_id _ (by omega) (by omega), and_mask_i64 1 (by decide) _ 1 (by omega) (by omega) rfl, hp]
theorem rget_loop (s : ByteArray) (hs : s.size ≤ 281474976710656) (p W : Nat) (hW : W ≤ 64) (hp : p + W ≤ 8 * s.size) : ∀ d i : Nat, i + d = W → Ev (fun k => lacquerref01_R_Get.l0 k (W : Int) (numAt s p i : Int) (i : Int) s (p : Int)) ((numAt s p W : Int), 0, s, ((p + W : Nat) : Int))
  | 0, i, e => by
    refine Ev.step (fun k => lacquerref01_R_Get.l0.eq_2 _ _ _ _ _ _) ?_
    obtain rfl : i = W := by omega
    simp only [show ¬ (i : Int) < (i : Int) by omega, if_false, wrap_id ((p : Int) + (i : Int)) (by omega) (by omega)]
    exact Ev.now _
  | d + 1, i, e => by
    refine Ev.step (fun k => lacquerref01_R_Get.l0.eq_2 _ _ _ _ _ _) ?_
    have e1 : wrap64 ((p : Int) + (i : Int)) = ((p + i : Nat) : Int) := by rw [wrap_id _ (by omega) (by omega)]; omega
    have hlt : numAt s p i < 9223372036854775808 := Nat.lt_of_lt_of_le (numAt_lt s p i) (by
      have : i ≤ 63 := by omega
      exact Nat.pow_le_pow_right (by decide) this)
    have hnx := numAt_succ s p i
    have hb : (tb s (p + i)).toNat < 2 := by cases tb s (p + i) <;> decide
    simp only [show ((i : Int) < (W : Int)) by omega, if_true, e1, rbit s hs (p : Int) (p + i) (by omega), Option.bind_some]
    have e2 : IntKind.u64.wrap (IntKind.u64.wrap ((numAt s p i : Int) * 2) + IntKind.u64.wrap ((tb s (p + i)).toNat : Int)) = ((numAt s p (i + 1) : Nat) : Int) := by
      rw [u64_wrap, u64_wrap, u64_wrap, hnx]; omega
    have e3 : wrap64 ((i : Int) + 1) = ((i + 1 : Nat) : Int) := by rw [wrap_id _ (by omega) (by omega)]; omega
    rw [e2, e3]
    exact rget_loop s hs p W hW hp d (i + 1) (by omega)
theorem rleft (s : ByteArray) (hs : s.size ≤ 281474976710656) (p : Nat) (hp : p ≤ 8 * s.size) : lacquerref01_R_Left.f s (p : Int) = some (((8 * s.size - p : Nat) : Int), s, (p : Int)) := by
  unfold lacquerref01_R_Left.f
  rw [wrap_id ((s.size : Int) * 8) (by omega) (by omega), wrap_id _ (by omega) (by omega)]
  congr 2
  omega
theorem rget (s : ByteArray) (hs : s.size ≤ 281474976710656) (p : Nat) (hp : p ≤ 8 * s.size) (k : Int) : Ev (fun n => lacquerref01_R_Get.f n s (p : Int) k) (((getR s p k).1 : Int), (getR s p k).2.1, s, ((getR s p k).2.2 : Int)) := by
  unfold lacquerref01_R_Get.f
  by_cases h1 : k < 0
  · have he : getR s p k = (0, 11, p) := if_pos (.inl h1)
    simp only [h1, if_true, he]
    refine Ev.step (fun n => lacquerref01_R_Get.j0.eq_2 _ _ _ _ _) ?_
    simp only [if_true]
    exact Ev.now _
  · by_cases h2 : 64 < k
    · have he : getR s p k = (0, 11, p) := if_pos (.inr h2)
      simp only [h1, if_false, he, show decide (k > 64) = true from decide_eq_true h2]
      refine Ev.step (fun n => lacquerref01_R_Get.j0.eq_2 _ _ _ _ _) ?_
      simp only [if_true]
      exact Ev.now _
    · obtain ⟨K, rfl⟩ : ∃ K : Nat, k = (K : Int) := ⟨k.toNat, by omega⟩
      simp only [h1, if_false, show decide ((K : Int) > 64) = false from decide_eq_false h2]
      refine Ev.step (fun n => lacquerref01_R_Get.j0.eq_2 _ _ _ _ _) ?_
      simp only [Bool.false_eq_true, if_false, rleft s hs p hp, Option.bind_some]
      by_cases h3 : ((8 * s.size - p : Nat) : Int) < (K : Int)
      · have he : getR s p K = (0, 10, p) := by unfold getR; rw [if_neg (by omega), if_pos h3]
        simp only [h3, if_true, he]
        exact Ev.now _
      · have he : getR s p K = (numAt s p K, 0, p + K) := by unfold getR; rw [if_neg (by omega), if_neg h3]; rfl
        simp only [h3, if_false, he]
        exact rget_loop s hs p K (by omega) (by omega) K 0 (by omega)
theorem runary_loop (s : ByteArray) (hs : s.size ≤ 281474976710656) (p : Nat) (hp : p ≤ 8 * s.size) : ∀ d n : Nat, n + d = 8 * s.size - p → n ≤ zeros s p (8 * s.size - p) → n ≤ 16777217 →
    Ev (fun k => lacquerref01_R_Unary.l0 k (n : Int) ((p + n : Nat) : Int) s (p : Int)) (((unaryR s p).1 : Int), (unaryR s p).2.1, s, ((unaryR s p).2.2 : Int)) := by
  have e8 : wrap64 ((s.size : Int) * 8) = ((8 * s.size : Nat) : Int) := by rw [wrap_id _ (by omega) (by omega)]; omega
  intro d
  induction d with
  | zero =>
    intro n e hz hn
    refine Ev.step (fun k => lacquerref01_R_Unary.l0.eq_2 _ _ _ _ _) ?_
    have hzz : zeros s p (8 * s.size - p) = 8 * s.size - p := by have := zeros_le s (8 * s.size - p) p; omega
    by_cases h1 : 16777216 < n
    · have he : unaryR s p = (0, 11, p) := by unfold unaryR; rw [if_pos (by omega)]
      simp only [show (n : Int) > 16777216 by omega, if_true, he]
      exact Ev.now _
    · have he : unaryR s p = (0, 10, p) := by unfold unaryR; rw [if_neg (by omega), if_pos hzz]
      simp only [show ¬ (n : Int) > 16777216 by omega, if_false, e8, show ((p + n : Nat) : Int) ≥ ((8 * s.size : Nat) : Int) by omega, if_true, he]
      exact Ev.now _
  | succ d ih =>
    intro n e hz hn
    refine Ev.step (fun k => lacquerref01_R_Unary.l0.eq_2 _ _ _ _ _) ?_
    by_cases h1 : 16777216 < n
    · have he : unaryR s p = (0, 11, p) := by unfold unaryR; rw [if_pos (by omega)]
      simp only [show (n : Int) > 16777216 by omega, if_true, he]
      exact Ev.now _
    · simp only [show ¬ (n : Int) > 16777216 by omega, if_false, e8, show ¬ ((p + n : Nat) : Int) ≥ ((8 * s.size : Nat) : Int) by omega, rbit s hs (p : Int) (p + n) (by omega), Option.bind_some]
      by_cases hb : n = zeros s p (8 * s.size - p)
      · have ht : tb s (p + n) = true := by
          rw [hb]
          exact zeros_end s (8 * s.size - p) p (by omega)
        have he : unaryR s p = (n, 0, p + n + 1) := by
          unfold unaryR
          rw [if_neg (by omega), if_neg (by omega), ← hb]
        simp only [ht, he, show ((true.toNat : Nat) : Int) = 1 from rfl, if_true]
        have e3 : wrap64 (((p + n : Nat) : Int) + 1) = ((p + n + 1 : Nat) : Int) := by rw [wrap_id _ (by omega) (by omega)]; omega
        rw [e3]
        exact Ev.now _
      · have ht : tb s (p + n) = false := zeros_bit s (8 * s.size - p) p n (by omega)
        simp only [ht, show ¬ ((false.toNat : Nat) : Int) = 1 by decide, if_false]
        have e3 : wrap64 (((p + n : Nat) : Int) + 1) = ((p + (n + 1) : Nat) : Int) := by rw [wrap_id _ (by omega) (by omega)]; omega
        have e4 : wrap64 ((n : Int) + 1) = ((n + 1 : Nat) : Int) := by rw [wrap_id _ (by omega) (by omega)]; omega
        rw [e3, e4]
        exact ih (n + 1) (by omega) (by omega) (by omega)
theorem runary (s : ByteArray) (hs : s.size ≤ 281474976710656) (p : Nat) (hp : p ≤ 8 * s.size) : Ev (fun n => lacquerref01_R_Unary.f n s (p : Int)) (((unaryR s p).1 : Int), (unaryR s p).2.1, s, ((unaryR s p).2.2 : Int)) := by
  unfold lacquerref01_R_Unary.f
  exact runary_loop s hs p hp (8 * s.size - p) 0 (by omega) (by omega) (by omega)
end Go.Proofs.Ytlgkaegcocfhdaa.Hand
