/- The plain law of PredictShifts, its second part. -/
import Derived.Test.YtbbedocehejfgaaMathE
namespace Go.Proofs.Ytbbedocehejfgaa.Math
open Go.RowKit Go.Proofs.Ytbbedocehejfgaa Go.Proofs.Ytbbedocehejfgaa.Q Go.Proofs.YtbbedocehejfgaaW.PrintWords Go.Proofs.YtbbedocehejfgaaW.PrintLast Go.Proofs.YtbbedocehejfgaaW.PrintMore
set_option linter.unusedVariables false
set_option linter.unusedSimpArgs false

theorem shr_is (x : Int) (n : Nat) (h : n ≤ 31) : shr .i64 x (n : Int) = x / 2 ^ n := by
  unfold shr
  rw [Nat.min_eq_left (by simp [IntKind.bits]; omega)]
  rfl
theorem shl_is (x : Int) (n : Nat) (h : n ≤ 31) : shl .i64 x (n : Int) = wrap64 (x * 2 ^ n) := by
  unfold shl
  rw [Nat.min_eq_left (by simp [IntKind.bits]; omega)]
  exact i64_w _
theorem pow31 (n : Nat) (h : n ≤ 31) : (0 : Int) < 2 ^ n ∧ (2 : Int) ^ n ≤ 2147483648 := by
  have : (2 : Nat) ^ n ≤ 2 ^ 31 := Nat.pow_le_pow_right (by decide) h
  have h2 : ((2 ^ n : Nat) : Int) ≤ ((2 ^ 31 : Nat) : Int) := Int.ofNat_le.2 this
  exact ⟨Int.pow_pos (by decide), by simpa using h2⟩
theorem back_range (x : Int) (n : Nat) (hn : n ≤ 31) (h : -9223372036854775808 ≤ x ∧ x ≤ 9223372036854775807) : -9223372036854775808 ≤ x / 2 ^ n * 2 ^ n ∧ x / 2 ^ n * 2 ^ n ≤ 9223372036854775807 := by
  have hp := (pow31 n hn).1
  have e : x / 2 ^ n * 2 ^ n = x - x % 2 ^ n := by
    have := Int.mul_ediv_add_emod x (2 ^ n)
    rw [Int.mul_comm] at this; omega
  have h1 := Int.emod_nonneg x (show (2 : Int) ^ n ≠ 0 by omega)
  have h2 := Int.emod_lt_of_pos x hp
  refine ⟨?_, by omega⟩
  have h3 : (-9223372036854775808 : Int) % 2 ^ n = 0 := by
    apply Int.emod_eq_zero_of_dvd
    have : (2 : Nat) ^ n ∣ 2 ^ 63 := Nat.pow_dvd_pow 2 (by omega)
    have h4 := Int.natCast_dvd_natCast.2 this
    have : (2 : Int) ^ n ∣ 9223372036854775808 := by simpa using h4
    exact (Int.dvd_neg (a := (2 : Int) ^ n) (b := 9223372036854775808)).2 this
  have h5 : (-9223372036854775808 : Int) / 2 ^ n ≤ x / 2 ^ n := Int.ediv_le_ediv hp h.1
  have h6 : (-9223372036854775808 : Int) / 2 ^ n * 2 ^ n = -9223372036854775808 := by
    have := Int.mul_ediv_add_emod (-9223372036854775808) (2 ^ n)
    rw [h3, Int.mul_comm] at this; omega
  have := Int.mul_le_mul_of_nonneg_right h5 (Int.le_of_lt hp)
  omega
theorem shl_shr (x : Int) (n : Nat) (hn : n ≤ 31) (h : -9223372036854775808 ≤ x ∧ x ≤ 9223372036854775807) : shl .i64 (shr .i64 x (n : Int)) (n : Int) = x ↔ x % 2 ^ n = 0 := by
  rw [shr_is x n hn, shl_is _ n hn, wrap_id _ (back_range x n hn h).1 (back_range x n hn h).2]
  have := Int.mul_ediv_add_emod x (2 ^ n)
  rw [Int.mul_comm] at this
  omega
/-- All divided; all times. -/
def downTo (l : List Int) (n : Nat) (i : Nat) : List Int := (List.range i).map fun j => rd l (j : Nat) / 2 ^ n
def upTo (l : List Int) (n : Nat) (i : Nat) : List Int := (List.range i).map fun j => wrap64 (rd l (j : Nat) * 2 ^ n)
theorem downTo_snoc (l : List Int) (n i : Nat) : downTo l n (i + 1) = downTo l n i ++ [rd l (i : Nat) / 2 ^ n] := by simp [downTo, List.range_succ]
theorem upTo_snoc (l : List Int) (n i : Nat) : upTo l n (i + 1) = upTo l n i ++ [wrap64 (rd l (i : Nat) * 2 ^ n)] := by simp [upTo, List.range_succ]
theorem downTo_length (l : List Int) (n i : Nat) : (downTo l n i).length = i := by simp [downTo]
theorem upTo_length (l : List Int) (n i : Nat) : (upTo l n i).length = i := by simp [upTo]
def shiftF (l : List Int) (by_ : Int) : List Int × Int := if 0 ≤ by_ ∧ by_ ≤ 31 ∧ orTo l l.length % 2 ^ by_.toNat = 0 then (downTo l by_.toNat l.length, 0) else ([], 1)
def unshiftF (l : List Int) (by_ : Int) : List Int × Int := if 0 ≤ by_ ∧ by_ ≤ 31 then (upTo l by_.toNat l.length, 0) else ([], 1)
theorem shift_loop (l : List Int) (n : Nat) (hn : n ≤ 31) (hi : In64 l) (h : l.length < 17592186044416) : ∀ d i : Nat, i + d = l.length → (∀ j : Nat, j < i → rd l (j : Nat) % 2 ^ n = 0) →
    Ev (fun k => predict_Shift.l0 k (n : Int) (downTo l n i) l (l.length : Int) (i : Int)) (if orTo l l.length % 2 ^ n = 0 then (downTo l n l.length, 0) else ([], 1))
  | 0, i, e, hz => by
    have : i = l.length := by omega
    subst this
    refine Ev.step (fun k => predict_Shift.l0.eq_2 _ _ _ _ _ _) ?_
    simp only [Int.lt_irrefl, if_false, (orTo_mod l n (by omega) l.length).2 hz, if_true]
    exact Ev.now _
  | d + 1, i, e, hz => by
    refine Ev.step (fun k => predict_Shift.l0.eq_2 _ _ _ _ _ _) ?_
    simp only [show ((i : Int) < (l.length : Int)) by omega, show (0 : Int) ≤ (i : Int) by omega, show (0 : Int) ≤ (n : Int) by omega, if_true, wrap_id ((i : Int) + 1) (by omega) (by omega), downTo_length, show i < 17592186044416 by omega]
    by_cases h1 : rd l (i : Nat) % 2 ^ n = 0
    · simp only [(shl_shr _ n hn (hi i (by omega))).2 h1, if_true]
      have ih := shift_loop l n hn hi h d (i + 1) (by omega) (fun j hj => by
        by_cases e2 : j = i
        · subst e2; exact h1
        · exact hz j (by omega))
      rw [downTo_snoc] at ih
      rw [shr_is _ n hn]
      exact ih
    · simp only [show ¬ (shl .i64 (shr .i64 (rd l (i : Int)) (n : Int)) (n : Int) = rd l (i : Int)) from fun q => h1 ((shl_shr _ n hn (hi i (by omega))).1 q), if_false,
        show ¬ (orTo l l.length % 2 ^ n = 0) from fun q => h1 ((orTo_mod l n (by omega) l.length).1 q i (by omega))]
      exact Ev.now _
theorem Shift_ev (l : List Int) (b : Int) (hi : In64 l) (h : l.length < 17592186044416) : Ev (fun k => predict_Shift.f k l b) (shiftF l b) := by
  have no : Ev (fun k => predict_Shift.j0 k l b true) ([], 1) := by
    refine Ev.step (fun k => predict_Shift.j0.eq_2 _ _ _ _) ?_
    exact Ev.now _
  unfold predict_Shift.f shiftF
  by_cases h1 : b < 0
  · simp only [h1, if_true, show ¬ (0 ≤ b) by omega, false_and, if_false]
    exact no
  by_cases h2 : b > 31
  · simp only [h1, h2, if_false, decide_true, show ¬ (b ≤ 31) by omega, false_and, and_false]
    exact no
  obtain ⟨n, rfl⟩ : ∃ n : Nat, b = n := ⟨b.toNat, by omega⟩
  simp only [h1, h2, if_false, decide_false, show (0 : Int) ≤ (n : Int) by omega, show (n : Int) ≤ 31 by omega, true_and, Int.toNat_natCast]
  refine Ev.step (fun k => predict_Shift.j0.eq_2 _ _ _ _) ?_
  simp only [Bool.false_eq_true, if_false]
  exact shift_loop l n (by omega) hi h l.length 0 (by omega) (fun j hj => absurd hj (by omega))
theorem unshift_loop (l : List Int) (n : Nat) (hn : n ≤ 31) (h : l.length < 17592186044416) : ∀ d i : Nat, i + d = l.length →
    Ev (fun k => predict_Unshift.l0 k (n : Int) (upTo l n i) l (l.length : Int) (i : Int)) (upTo l n l.length, 0)
  | 0, i, e => by
    have : i = l.length := by omega
    subst this
    refine Ev.step (fun k => predict_Unshift.l0.eq_2 _ _ _ _ _ _) ?_
    simp only [Int.lt_irrefl, if_false]
    exact Ev.now _
  | d + 1, i, e => by
    refine Ev.step (fun k => predict_Unshift.l0.eq_2 _ _ _ _ _ _) ?_
    simp only [show ((i : Int) < (l.length : Int)) by omega, show (0 : Int) ≤ (i : Int) by omega, show (0 : Int) ≤ (n : Int) by omega, if_true, wrap_id ((i : Int) + 1) (by omega) (by omega), upTo_length, show i < 17592186044416 by omega, shl_is _ n hn]
    have ih := unshift_loop l n hn h d (i + 1) (by omega)
    rw [upTo_snoc] at ih
    exact ih
theorem Unshift_ev (l : List Int) (b : Int) (h : l.length < 17592186044416) : Ev (fun k => predict_Unshift.f k l b) (unshiftF l b) := by
  have no : Ev (fun k => predict_Unshift.j0 k l b true) ([], 1) := by
    refine Ev.step (fun k => predict_Unshift.j0.eq_2 _ _ _ _) ?_
    exact Ev.now _
  unfold predict_Unshift.f unshiftF
  by_cases h1 : b < 0
  · simp only [h1, if_true, show ¬ (0 ≤ b) by omega, false_and, if_false]
    exact no
  by_cases h2 : b > 31
  · simp only [h1, h2, if_false, decide_true, show ¬ (b ≤ 31) by omega, and_false]
    exact no
  obtain ⟨n, rfl⟩ : ∃ n : Nat, b = n := ⟨b.toNat, by omega⟩
  simp only [h1, h2, if_false, decide_false, show (0 : Int) ≤ (n : Int) by omega, show (n : Int) ≤ 31 by omega, true_and, and_self, if_true, Int.toNat_natCast]
  refine Ev.step (fun k => predict_Unshift.j0.eq_2 _ _ _ _) ?_
  simp only [Bool.false_eq_true, if_false]
  exact unshift_loop l n (by omega) h l.length 0 (by omega)
theorem rshift_loop (l : List Int) (n : Nat) (hn : n ≤ 31) (h : l.length < 17592186044416) : ∀ d i : Nat, i + d = l.length →
    Ev (fun k => lacquerref09_Shift.l0 k l (n : Int) (downTo l n i) (i : Int)) (downTo l n l.length, 0)
  | 0, i, e => by
    have : i = l.length := by omega
    subst this
    refine Ev.step (fun k => lacquerref09_Shift.l0.eq_2 _ _ _ _ _) ?_
    simp only [Int.lt_irrefl, if_false]
    exact Ev.now _
  | d + 1, i, e => by
    refine Ev.step (fun k => lacquerref09_Shift.l0.eq_2 _ _ _ _ _) ?_
    simp only [show ((i : Int) < (l.length : Int)) by omega, show (0 : Int) ≤ (i : Int) by omega, u64_id (n : Int) (by omega) (by omega), show (0 : Int) ≤ (n : Int) by omega, if_true, wrap_id ((i : Int) + 1) (by omega) (by omega), downTo_length, show i < 17592186044416 by omega, shr_is _ n hn]
    have ih := rshift_loop l n hn h d (i + 1) (by omega)
    rw [downTo_snoc] at ih
    exact ih
theorem rShift_ev (l : List Int) (b : Int) (h : l.length < 17592186044416) : Ev (fun k => lacquerref09_Shift.f k l b) (shiftF l b) := by
  have no : Ev (fun k => lacquerref09_Shift.j0 k l b true) ([], 1) := by
    refine Ev.step (fun k => lacquerref09_Shift.j0.eq_2 _ _ _ _) ?_
    exact Ev.now _
  unfold lacquerref09_Shift.f shiftF
  by_cases h1 : b < 0
  · simp only [h1, if_true, show ¬ (0 ≤ b) by omega, false_and, if_false]
    exact no
  by_cases h2 : b > 31
  · simp only [h1, h2, if_false, if_true, show ¬ (b ≤ 31) by omega, false_and, and_false]
    exact no
  obtain ⟨n, rfl⟩ : ∃ n : Nat, b = n := ⟨b.toNat, by omega⟩
  simp only [h1, h2, if_false, show (0 : Int) ≤ (n : Int) by omega, show (n : Int) ≤ 31 by omega, true_and, Int.toNat_natCast]
  refine Ev.bind (divides_ev l n (by omega) (by omega)) ?_
  by_cases h4 : orTo l l.length % 2 ^ n = 0
  · simp only [h4, decide_true, Bool.not_true, if_true]
    refine Ev.step (fun k => lacquerref09_Shift.j0.eq_2 _ _ _ _) ?_
    simp only [Bool.false_eq_true, if_false]
    exact rshift_loop l n (by omega) h l.length 0 (by omega)
  · simp only [h4, decide_false, Bool.not_false, if_false]
    exact no
theorem runshift_loop (l : List Int) (n : Nat) (hn : n ≤ 31) (h : l.length < 17592186044416) : ∀ d i : Nat, i + d = l.length →
    Ev (fun k => lacquerref09_Unshift.l0 k l (n : Int) (upTo l n i) (i : Int)) (upTo l n l.length, 0)
  | 0, i, e => by
    have : i = l.length := by omega
    subst this
    refine Ev.step (fun k => lacquerref09_Unshift.l0.eq_2 _ _ _ _ _) ?_
    simp only [Int.lt_irrefl, if_false]
    exact Ev.now _
  | d + 1, i, e => by
    refine Ev.step (fun k => lacquerref09_Unshift.l0.eq_2 _ _ _ _ _) ?_
    simp only [show ((i : Int) < (l.length : Int)) by omega, show (0 : Int) ≤ (i : Int) by omega, u64_id (n : Int) (by omega) (by omega), show (0 : Int) ≤ (n : Int) by omega, if_true, wrap_id ((i : Int) + 1) (by omega) (by omega), upTo_length, show i < 17592186044416 by omega, shl_is _ n hn]
    have ih := runshift_loop l n hn h d (i + 1) (by omega)
    rw [upTo_snoc] at ih
    exact ih
theorem rUnshift_ev (l : List Int) (b : Int) (h : l.length < 17592186044416) : Ev (fun k => lacquerref09_Unshift.f k l b) (unshiftF l b) := by
  have no : Ev (fun k => lacquerref09_Unshift.j0 k l b true) ([], 1) := by
    refine Ev.step (fun k => lacquerref09_Unshift.j0.eq_2 _ _ _ _) ?_
    exact Ev.now _
  unfold lacquerref09_Unshift.f unshiftF
  by_cases h1 : b < 0
  · simp only [h1, if_true, show ¬ (0 ≤ b) by omega, false_and, if_false]
    exact no
  by_cases h2 : b > 31
  · simp only [h1, h2, if_false, decide_true, show ¬ (b ≤ 31) by omega, and_false]
    exact no
  obtain ⟨n, rfl⟩ : ∃ n : Nat, b = n := ⟨b.toNat, by omega⟩
  simp only [h1, h2, if_false, decide_false, show (0 : Int) ≤ (n : Int) by omega, show (n : Int) ≤ 31 by omega, true_and, and_self, if_true, Int.toNat_natCast]
  refine Ev.step (fun k => lacquerref09_Unshift.j0.eq_2 _ _ _ _) ?_
  simp only [Bool.false_eq_true, if_false]
  exact runshift_loop l n (by omega) h l.length 0 (by omega)
theorem shiftF_length (l : List Int) (b : Int) : (shiftF l b).1.length ≤ l.length := by
  unfold shiftF
  split <;> simp [downTo_length]
theorem unshiftF_length (l : List Int) (b : Int) : (unshiftF l b).1.length ≤ l.length := by
  unfold unshiftF
  split <;> simp [upTo_length]
theorem PredictShifts_ev (l : List Int) (b : Int) (h : l.length * 8 ≤ 140737488351232) (hi : In64 l) : Ev (fun k => lacquerlaw09_PredictShifts.f k l b) true := by
  unfold lacquerlaw09_PredictShifts.f
  have n1 := shiftF_length l b
  have n2 := unshiftF_length l b
  refine Ev.bind (Shift_ev l b hi (by omega)) ?_
  refine Ev.bind (rShift_ev l b (by omega)) ?_
  refine Ev.bind (Unshift_ev l b (by omega)) ?_
  refine Ev.bind (rUnshift_ev l b (by omega)) ?_
  refine Ev.bind (Wasted_ev l (by omega)) ?_
  refine Ev.bind (rWasted_ev l hi (by omega)) ?_
  simp only [if_true]
  refine Ev.bind (same_ev _ (by omega)) ?_
  simp only [if_true]
  refine Ev.bind (same_ev _ (by omega)) ?_
  simp only [if_true]
  exact Ev.bind awake_ev (Ev.now _)
end Go.Proofs.Ytbbedocehejfgaa.Math
