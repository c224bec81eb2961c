/- The plain law of PredictShifts. -/
import Derived.Test.YtbbedocehejfgaaMathC
import Derived.Test.YtbbedocehejfgaaQx7
namespace Go.Proofs.Ytbbedocehejfgaa.Math
open Go.RowKit Go.Proofs.Ytbbedocehejfgaa Go.Proofs.Ytbbedocehejfgaa.Q Go.Proofs.YtbbedocehejfgaaW.PrintWords Go.Proofs.YtbbedocehejfgaaW.PrintLast Go.Proofs.YtbbedocehejfgaaW.PrintMore
set_option linter.unusedVariables false
set_option linter.unusedSimpArgs false

/-- All are numbers of 64 bits. -/
def In64 (l : List Int) : Prop := ∀ j : Nat, j < l.length → -9223372036854775808 ≤ rd l (j : Nat) ∧ rd l (j : Nat) ≤ 9223372036854775807
theorem rd_mem (l : List Int) (j : Nat) (h : j < l.length) : rd l (j : Nat) ∈ l := by
  simp [rd, List.getD_eq_getElem?_getD, h]
theorem in64_of (l : List Int) (h : ∀ x ∈ l, (Lit.int .i64 x).wf = true) : In64 l := by
  intro j hj
  have := h _ (rd_mem l j hj)
  simp [Lit.wf, IntKind.min, IntKind.max, IntKind.bits, IntKind.signed] at this
  omega
theorem bv_zero (x : Int) (h : -9223372036854775808 ≤ x ∧ x ≤ 9223372036854775807) : BitVec.ofInt 64 x = 0#64 ↔ x = 0 := by
  constructor
  · intro e
    have := congrArg BitVec.toInt e
    rw [BitVec.toInt_ofInt] at this
    simp [Int.bmod_def] at this
    omega
  · intro e; subst e; rfl
theorem bv_mod (x : Int) (i : Nat) (hi : i < 63) : BitVec.ofInt 64 x &&& BitVec.ofInt 64 ((2 ^ i - 1 : Nat) : Int) = 0#64 ↔ x % 2 ^ i = 0 := by
  have h := and_mask x i hi
  have e : Go.bits .and .i64 x (2 ^ i - 1 : Nat) = IntKind.i64.wrap ((BitVec.ofInt 64 x &&& BitVec.ofInt 64 ((2 ^ i - 1 : Nat) : Int)).toNat : Int) := rfl
  rw [e] at h
  constructor
  · intro q; rw [q] at h; rw [← h]; rfl
  · intro q
    rw [q] at h
    generalize BitVec.ofInt 64 x &&& BitVec.ofInt 64 ((2 ^ i - 1 : Nat) : Int) = b at h
    have hb := b.isLt
    apply BitVec.eq_of_toNat_eq
    simp [IntKind.wrap_i64] at h ⊢
    omega
theorem or_range (x y : Int) : -9223372036854775808 ≤ Go.bits .or .i64 x y ∧ Go.bits .or .i64 x y ≤ 9223372036854775807 := by
  have e : Go.bits .or .i64 x y = IntKind.i64.wrap ((BitVec.ofInt 64 x ||| BitVec.ofInt 64 y).toNat : Int) := rfl
  rw [e, IntKind.wrap_i64]; omega
theorem or_bv (x y : Int) : BitVec.ofInt 64 (Go.bits .or .i64 x y) = BitVec.ofInt 64 x ||| BitVec.ofInt 64 y := by
  have e : Go.bits .or .i64 x y = IntKind.i64.wrap ((BitVec.ofInt 64 x ||| BitVec.ofInt 64 y).toNat : Int) := rfl
  rw [e, IntKind.wrap_i64]
  generalize BitVec.ofInt 64 x ||| BitVec.ofInt 64 y = b
  have hb := b.isLt
  apply BitVec.eq_of_toNat_eq
  rw [BitVec.toNat_ofInt]
  omega
theorem or_zero (x y : Int) (hx : -9223372036854775808 ≤ x ∧ x ≤ 9223372036854775807) (hy : -9223372036854775808 ≤ y ∧ y ≤ 9223372036854775807) : Go.bits .or .i64 x y = 0 ↔ x = 0 ∧ y = 0 := by
  rw [← bv_zero _ (or_range x y), or_bv, ← bv_zero x hx, ← bv_zero y hy]
  exact BitVec.or_eq_zero_iff
theorem or_mod (x y : Int) (i : Nat) (hi : i < 63) : Go.bits .or .i64 x y % 2 ^ i = 0 ↔ x % 2 ^ i = 0 ∧ y % 2 ^ i = 0 := by
  rw [← bv_mod _ i hi, or_bv, ← bv_mod x i hi, ← bv_mod y i hi]
  generalize BitVec.ofInt 64 x = a
  generalize BitVec.ofInt 64 y = b
  generalize BitVec.ofInt 64 ((2 ^ i - 1 : Nat) : Int) = m
  rw [BitVec.and_comm, BitVec.and_or_distrib_left, BitVec.and_comm m a, BitVec.and_comm m b]
  exact BitVec.or_eq_zero_iff
/-- The 'or' of the first so many. -/
def orTo (l : List Int) : Nat → Int
  | 0 => 0
  | i + 1 => Go.bits .or .i64 (orTo l i) (rd l (i : Nat))
theorem orTo_range (l : List Int) : ∀ i, -9223372036854775808 ≤ orTo l i ∧ orTo l i ≤ 9223372036854775807
  | 0 => by simp [orTo]
  | i + 1 => or_range _ _
theorem orTo_zero (l : List Int) (h : In64 l) : ∀ i, i ≤ l.length → (orTo l i = 0 ↔ ∀ j : Nat, j < i → rd l (j : Nat) = 0)
  | 0, _ => by simp [orTo]
  | i + 1, hi => by
    rw [orTo, or_zero _ _ (orTo_range l i) (h i (by omega)), orTo_zero l h i (by omega)]
    constructor
    · intro q j hj
      by_cases e : j = i
      · subst e; exact q.2
      · exact q.1 j (by omega)
    · intro q; exact ⟨fun j hj => q j (by omega), q i (by omega)⟩
theorem orTo_mod (l : List Int) (n : Nat) (hn : n < 63) : ∀ i, (orTo l i % 2 ^ n = 0 ↔ ∀ j : Nat, j < i → rd l (j : Nat) % 2 ^ n = 0)
  | 0 => by simp [orTo]
  | i + 1 => by
    rw [orTo, or_mod _ _ _ hn, orTo_mod l n hn i]
    constructor
    · intro q j hj
      by_cases e : j = i
      · subst e; exact q.2
      · exact q.1 j (by omega)
    · intro q; exact ⟨fun j hj => q j (by omega), q i (by omega)⟩
/-- How often two divides, at the most so many times more. -/
def wst (o : Int) : Nat → Nat → Nat
  | 0, n => n
  | d + 1, n => if o % 2 ^ (n + 1) = 0 then wst o d (n + 1) else n
/-- The wasted bits. -/
def wasted (l : List Int) : Nat := if orTo l l.length = 0 then 0 else wst (orTo l l.length) 31 0
theorem half (o : Int) (n : Nat) (h : o % 2 ^ n = 0) : ((o / 2 ^ n) % 2 = 0 ↔ o % 2 ^ (n + 1) = 0) ∧ (o / 2 ^ n) / 2 = o / 2 ^ (n + 1) ∧ (o / 2 ^ n = 0 ↔ o = 0) := by
  have hp : (0 : Int) < 2 ^ n := Int.pow_pos (by decide)
  obtain ⟨q, rfl⟩ := Int.dvd_of_emod_eq_zero h
  have e1 : (2 : Int) ^ n * q / 2 ^ n = q := Int.mul_ediv_cancel_left _ (by omega)
  rw [e1, Int.pow_succ, Int.mul_emod_mul_of_pos _ _ hp, Int.mul_ediv_mul_of_pos _ _ hp]
  refine ⟨?_, rfl, ?_⟩
  · constructor
    · intro h; rw [h]; simp
    · intro h
      rcases Int.mul_eq_zero.1 h with h | h
      · omega
      · exact h
  · constructor
    · intro h; rw [h]; simp
    · intro h
      rcases Int.mul_eq_zero.1 h with h | h
      · omega
      · exact h
theorem wasted_l1 (o : Int) (ho : o ≠ 0) : ∀ d n : Nat, n + d = 31 → o % 2 ^ n = 0 → Ev (fun k => predict_Wasted.l1 k (o / 2 ^ n) (n : Int)) (wst o d n : Int)
  | 0, n, e, h => by
    obtain ⟨h1, h2, h3⟩ := half o n h
    refine Ev.step (fun k => predict_Wasted.l1.eq_2 _ _ _) ?_
    have : n = 31 := by omega
    subst this
    simp only [show ¬ (o / 2 ^ 31 = 0) from fun q => ho (h3.1 q), if_false, and1]
    simp only [show ¬ (((31 : Nat) : Int) < 31) by decide, if_false, ite_self]
    exact Ev.now _
  | d + 1, n, e, h => by
    obtain ⟨h1, h2, h3⟩ := half o n h
    refine Ev.step (fun k => predict_Wasted.l1.eq_2 _ _ _) ?_
    simp only [show ¬ (o / 2 ^ n = 0) from fun q => ho (h3.1 q), if_false, and1, wst]
    by_cases h4 : o % 2 ^ (n + 1) = 0
    · simp only [h1.2 h4, h4, if_true, show ((n : Int) < 31) by omega, h2, wrap_id ((n : Int) + 1) (by omega) (by omega)]
      exact wasted_l1 o ho d (n + 1) (by omega) h4
    · simp only [show ¬ (o / 2 ^ n % 2 = 0) from fun q => h4 (h1.1 q), h4, if_false]
      exact Ev.now _
theorem wasted_l0 (l : List Int) (hl : l.length < 9223372036854775807) : ∀ d i : Nat, i + d = l.length → Ev (fun k => predict_Wasted.l0 k (orTo l i) l (l.length : Int) (i : Int)) (wasted l : Int)
  | 0, i, e => by
    have : i = l.length := by omega
    subst this
    refine Ev.step (fun k => predict_Wasted.l0.eq_2 _ _ _ _ _) ?_
    simp only [Int.lt_irrefl, if_false]
    unfold wasted
    by_cases ho : orTo l l.length = 0
    · rw [if_pos ho, ho]
      refine Ev.step (fun k => predict_Wasted.l1.eq_2 _ _ _) ?_
      simp only [if_true]
      exact Ev.now _
    · rw [if_neg ho]
      have := wasted_l1 (orTo l l.length) ho 31 0 (by omega) (by simp)
      simpa using this
  | d + 1, i, e => by
    refine Ev.step (fun k => predict_Wasted.l0.eq_2 _ _ _ _ _) ?_
    simp only [show ((i : Int) < (l.length : Int)) by omega, show (0 : Int) ≤ (i : Int) by omega, if_true, wrap_id ((i : Int) + 1) (by omega) (by omega)]
    exact wasted_l0 l hl d (i + 1) (by omega)
theorem Wasted_ev (l : List Int) (hl : l.length < 9223372036854775807) : Ev (fun k => predict_Wasted.f k l) (wasted l : Int) := by
  unfold predict_Wasted.f
  exact wasted_l0 l hl l.length 0 (by omega)
theorem mask1 (n : Nat) (h : n ≤ 31) : wrap64 (shl .i64 1 (n : Int) - 1) = ((2 ^ n - 1 : Nat) : Int) := by
  have hn : n = 0 ∨ n = 1 ∨ n = 2 ∨ n = 3 ∨ n = 4 ∨ n = 5 ∨ n = 6 ∨ n = 7 ∨ n = 8 ∨ n = 9 ∨ n = 10 ∨ n = 11 ∨ n = 12 ∨ n = 13 ∨ n = 14 ∨ n = 15 ∨ n = 16 ∨ n = 17 ∨ n = 18 ∨ n = 19 ∨ n = 20 ∨ n = 21 ∨ n = 22 ∨ n = 23 ∨ n = 24 ∨ n = 25 ∨ n = 26 ∨ n = 27 ∨ n = 28 ∨ n = 29 ∨ n = 30 ∨ n = 31 := by omega
  rcases hn with rfl | rfl | rfl | rfl | rfl | rfl | rfl | rfl | rfl | rfl | rfl | rfl | rfl | rfl | rfl | rfl | rfl | rfl | rfl | rfl | rfl | rfl | rfl | rfl | rfl | rfl | rfl | rfl | rfl | rfl | rfl | rfl <;> decide +kernel
theorem divides_loop (l : List Int) (n : Nat) (hn : n ≤ 31) (h : l.length < 9223372036854775807) : ∀ d i : Nat, i + d = l.length → (∀ j : Nat, j < i → rd l (j : Nat) % 2 ^ n = 0) →
    Ev (fun k => lacquerref09_divides.l0 k l (n : Int) (i : Int)) (decide (orTo l l.length % 2 ^ n = 0))
  | 0, i, e, hi => by
    refine Ev.step (fun k => lacquerref09_divides.l0.eq_2 _ _ _ _) ?_
    simp only [show ¬ ((i : Int) < (l.length : Int)) by omega, if_false]
    rw [decide_eq_true ((orTo_mod l n (by omega) l.length).2 (fun j hj => hi j (by omega)))]
    exact Ev.now _
  | d + 1, i, e, hi => by
    refine Ev.step (fun k => lacquerref09_divides.l0.eq_2 _ _ _ _) ?_
    simp only [show ((i : Int) < (l.length : Int)) by omega, show (0 : Int) ≤ (i : Int) by omega, if_true, u64_id (n : Int) (by omega) (by omega), show (0 : Int) ≤ (n : Int) by omega, wrap_id ((i : Int) + 1) (by omega) (by omega), mask1 n hn, and_mask _ n (by omega)]
    by_cases h1 : rd l (i : Nat) % 2 ^ n = 0
    · simp only [h1, if_true]
      refine divides_loop l n hn h d (i + 1) (by omega) (fun j hj => ?_)
      by_cases e2 : j = i
      · subst e2; exact h1
      · exact hi j (by omega)
    · simp only [h1, if_false]
      rw [decide_eq_false (fun q => h1 ((orTo_mod l n (by omega) l.length).1 q i (by omega)))]
      exact Ev.now _
theorem divides_ev (l : List Int) (n : Nat) (hn : n ≤ 31) (h : l.length < 9223372036854775807) : Ev (fun k => lacquerref09_divides.f k l (n : Int)) (decide (orTo l l.length % 2 ^ n = 0)) := by
  unfold lacquerref09_divides.f
  exact divides_loop l n hn h l.length 0 (by omega) (fun j hj => absurd hj (by omega))
theorem rwasted_l1 (l : List Int) (h : l.length < 9223372036854775807) : ∀ d n : Nat, n + d = 31 → Ev (fun k => lacquerref09_Wasted.l1 k l true (n : Int)) (wst (orTo l l.length) d n : Int)
  | 0, n, e => by
    refine Ev.step (fun k => lacquerref09_Wasted.l1.eq_2 _ _ _ _) ?_
    simp only [if_true, show ¬ ((n : Int) < 31) by omega, if_false]
    exact Ev.now _
  | d + 1, n, e => by
    refine Ev.step (fun k => lacquerref09_Wasted.l1.eq_2 _ _ _ _) ?_
    simp only [if_true, show ((n : Int) < 31) by omega, wrap_id ((n : Int) + 1) (by omega) (by omega)]
    refine Ev.bind (divides_ev l (n + 1) (by omega) h) ?_
    by_cases h4 : orTo l l.length % 2 ^ (n + 1) = 0
    · simp only [decide_eq_true h4, if_true, wst, h4]
      exact rwasted_l1 l h d (n + 1) (by omega)
    · simp only [decide_eq_false h4, Bool.false_eq_true, if_false, wst, h4]
      exact Ev.now _
theorem rwasted_l0 (l : List Int) (hi : In64 l) (h : l.length < 9223372036854775807) : ∀ d i : Nat, i + d = l.length → Ev (fun k => lacquerref09_Wasted.l0 k l (decide (orTo l i ≠ 0)) (i : Int)) (wasted l : Int)
  | 0, i, e => by
    have : i = l.length := by omega
    subst this
    refine Ev.step (fun k => lacquerref09_Wasted.l0.eq_2 _ _ _ _) ?_
    simp only [Int.lt_irrefl, if_false]
    unfold wasted
    by_cases ho : orTo l l.length = 0
    · rw [if_pos ho, decide_eq_false (fun q => q ho)]
      refine Ev.step (fun k => lacquerref09_Wasted.l1.eq_2 _ _ _ _) ?_
      simp only [Bool.false_eq_true, if_false]
      exact Ev.now _
    · rw [if_neg ho, decide_eq_true ho]
      exact rwasted_l1 l h 31 0 (by omega)
  | d + 1, i, e => by
    refine Ev.step (fun k => lacquerref09_Wasted.l0.eq_2 _ _ _ _) ?_
    simp only [show ((i : Int) < (l.length : Int)) by omega, show (0 : Int) ≤ (i : Int) by omega, if_true, wrap_id ((i : Int) + 1) (by omega) (by omega)]
    have ih := rwasted_l0 l hi h d (i + 1) (by omega)
    have hz := or_zero _ _ (orTo_range l i) (hi i (by omega))
    by_cases ho : orTo l i = 0
    · simp only [ho, ne_eq, not_true_eq_false, decide_false, Bool.false_eq_true, if_false]
      have e1 : decide (orTo l (i + 1) ≠ 0) = (rd l (i : Int) != 0) := by
        rw [orTo, Bool.eq_iff_iff]
        simp [ho] at hz
        simp [ho, hz]
      rw [e1] at ih
      exact ih
    · have e1 : decide (orTo l (i + 1) ≠ 0) = true := decide_eq_true (fun q => ho (hz.1 q).1)
      simp only [decide_eq_true ho, if_true]
      rw [e1] at ih
      exact ih
theorem rWasted_ev (l : List Int) (hi : In64 l) (h : l.length < 9223372036854775807) : Ev (fun k => lacquerref09_Wasted.f k l) (wasted l : Int) := by
  unfold lacquerref09_Wasted.f
  exact rwasted_l0 l hi h l.length 0 (by omega)
end Go.Proofs.Ytbbedocehejfgaa.Math
