/- Plain words of layer 9: what any coefficients leave over, and back; each undoes the other. -/
import Derived.Test.YtbbedocehejfgaaTx2
import Derived.Test.YtbbedocehejfgaaTx3
namespace Go.Proofs.Ytbbedocehejfgaa.MathT
open Go.RowKit Go.Proofs.Ytbbedocehejfgaa Go.Proofs.Ytbbedocehejfgaa.T Go.Proofs.YtbbedocehejfgaaW.PrintWords Go.Proofs.YtbbedocehejfgaaW.PrintLast Go.Proofs.YtbbedocehejfgaaW.PrintMore
set_option linter.unusedVariables false
set_option linter.unusedSimpArgs false

theorem wrap_id (x : Int) (h : -9223372036854775808 ≤ x) (h2 : x ≤ 9223372036854775807) : wrap64 x = x := by unfold wrap64; omega
theorem u64_id (x : Int) (h : 0 ≤ x) (h2 : x ≤ 9223372036854775807) : IntKind.u64.wrap x = x := by
  simp [IntKind.wrap, IntKind.bits, IntKind.signed]; omega
theorem rd_take (l : List Int) (j m : Nat) (h : m < j) : rd (l.take j) (m : Nat) = rd l (m : Nat) := by
  simp [rd, List.getD_eq_getElem?_getD, List.getElem?_take, h]
theorem same_loop (a : List Int) (h : a.length < 9223372036854775807) : ∀ d i : Nat, i + d = a.length → Ev (fun k => lacquerref05_Ints.l0 k a a (i : Int)) true
  | 0, i, e => by
    refine Ev.step (fun k => lacquerref05_Ints.l0.eq_2 _ _ _ _) ?_
    simp only [show ¬ ((i : Int) < (a.length : Int)) by omega, if_false]
    exact Ev.now _
  | d + 1, i, e => by
    refine Ev.step (fun k => lacquerref05_Ints.l0.eq_2 _ _ _ _) ?_
    simp only [show ((i : Int) < (a.length : Int)) by omega, show (0 : Int) ≤ (i : Int) by omega, if_true, wrap_id ((i : Int) + 1) (by omega) (by omega)]
    exact same_loop a h d (i + 1) (by omega)
theorem same_ev (a : List Int) (h : a.length < 9223372036854775807) : Ev (fun k => lacquerlaw09_same.f k a a) true := by
  unfold lacquerlaw09_same.f
  refine Ev.bind (a := true) ?_ (Ev.now _)
  unfold lacquerref05_Ints.f
  simp only [if_true]
  exact same_loop a h a.length 0 (by omega)
theorem fore_loop (coefs l : List Int) (shift : Int) (j : Nat) (hj : j ≤ l.length) (hl : l.length < 9223372036854775807) (hc : coefs.length ≤ j) (hs : 0 ≤ shift) (hs2 : shift ≤ 31) :
    ∀ d i : Nat, i + d = coefs.length → Ev (fun k => lacquerref09_foretold.l0 k coefs shift l (j : Int) (Hand.foreSum coefs (l.take j) i) (i : Int)) (Hand.foretell coefs shift (l.take j))
  | 0, i, e => by
    refine Ev.step (fun k => lacquerref09_foretold.l0.eq_2 _ _ _ _ _ _ _) ?_
    simp only [show ¬ ((i : Int) < (coefs.length : Int)) by omega, if_false, u64_id shift hs (by omega), hs, if_true]
    have : i = coefs.length := by omega
    subst this
    exact Ev.now _
  | d + 1, i, e => by
    refine Ev.step (fun k => lacquerref09_foretold.l0.eq_2 _ _ _ _ _ _ _) ?_
    obtain ⟨m, hm⟩ : ∃ m : Nat, j = i + 1 + m := ⟨j - 1 - i, by omega⟩
    have e1 : wrap64 (wrap64 ((j : Int) - 1) - (i : Int)) = (m : Int) := by
      rw [wrap_id ((j : Int) - 1) (by omega) (by omega), wrap_id _ (by omega) (by omega)]; omega
    simp only [show ((i : Int) < (coefs.length : Int)) by omega, show (0 : Int) ≤ (i : Int) by omega, if_true, e1, show (0 : Int) ≤ (m : Int) by omega, show (m : Int) < (l.length : Int) by omega, wrap_id ((i : Int) + 1) (by omega) (by omega)]
    have e2 : wrap64 (Hand.foreSum coefs (l.take j) i + wrap64 (rd coefs (i : Int) * rd l (m : Int))) = Hand.foreSum coefs (l.take j) (i + 1) := by
      simp only [Hand.foreSum]
      rw [show (l.take j).length - 1 - i = m by rw [List.length_take]; omega, rd_take l j m (by omega)]
    rw [e2]
    exact fore_loop coefs l shift j hj hl hc hs hs2 d (i + 1) (by omega)
theorem fore_ev (coefs l : List Int) (shift : Int) (j : Nat) (hj : j ≤ l.length) (hl : l.length < 9223372036854775807) (hc : coefs.length ≤ j) (hs : 0 ≤ shift) (hs2 : shift ≤ 31) :
    Ev (fun k => lacquerref09_foretold.f k coefs shift l (j : Int)) (Hand.foretell coefs shift (l.take j)) := by
  unfold lacquerref09_foretold.f
  exact fore_loop coefs l shift j hj hl hc hs hs2 coefs.length 0 (by omega)
theorem left_loop (coefs l : List Int) (shift : Int) (hl : l.length < 17592186044416) (hs : 0 ≤ shift) (hs2 : shift ≤ 31) :
    ∀ d e : Nat, coefs.length + e + d = l.length → Ev (fun k => lacquerref09_left.l0 k coefs shift l (Hand.leftTo coefs shift l coefs.length e) ((coefs.length + e : Nat) : Int)) (Hand.leftTo coefs shift l coefs.length (l.length - coefs.length))
  | 0, i, e => by
    refine Ev.step (fun k => lacquerref09_left.l0.eq_2 _ _ _ _ _ _) ?_
    simp only [show ¬ (((coefs.length + i : Nat) : Int) < (l.length : Int)) by omega, if_false]
    have : l.length - coefs.length = i := by omega
    rw [this]
    exact Ev.now _
  | d + 1, i, e => by
    refine Ev.step (fun k => lacquerref09_left.l0.eq_2 _ _ _ _ _ _) ?_
    simp only [show (((coefs.length + i : Nat) : Int) < (l.length : Int)) by omega, if_true, show (0 : Int) ≤ ((coefs.length + i : Nat) : Int) by omega, Hand.leftTo_length, show i < 17592186044416 by omega]
    refine Ev.bind (fore_ev coefs l shift (coefs.length + i) (by omega) (by omega) (by omega) hs hs2) ?_
    rw [wrap_id (((coefs.length + i : Nat) : Int) + 1) (by omega) (by omega)]
    have := left_loop coefs l shift hl hs hs2 d (i + 1) (by omega)
    rw [Hand.leftTo_snoc] at this
    exact this
theorem left_ev (coefs l : List Int) (shift : Int) (hl : l.length < 17592186044416) (hc : coefs.length ≤ l.length) (hs : 0 ≤ shift) (hs2 : shift ≤ 31) :
    Ev (fun k => lacquerref09_left.f k coefs shift l) (Hand.leftTo coefs shift l coefs.length (l.length - coefs.length)) := by
  unfold lacquerref09_left.f
  exact left_loop coefs l shift hl hs hs2 (l.length - coefs.length) 0 (by omega)
theorem and_mask (x : Int) (i : Nat) (hi : i < 63) : Go.bits .and .i64 x (2 ^ i - 1 : Nat) = x % 2 ^ i := by
  have hlt : (2 : Nat) ^ i - 1 < 18446744073709551616 := by
    have : (2 : Nat) ^ i < 2 ^ 63 := Nat.pow_lt_pow_right (by omega) hi
    omega
  have h2 : (2 : Nat) ^ i < 2 ^ 63 := Nat.pow_lt_pow_right (by omega) hi
  show IntKind.i64.wrap ((BitVec.ofInt 64 x &&& BitVec.ofInt 64 ((2 ^ i - 1 : Nat) : Int)).toNat : Int) = _
  rw [BitVec.toNat_and, BitVec.ofInt_natCast, BitVec.toNat_ofNat, Nat.mod_eq_of_lt (by simpa using hlt), Nat.and_two_pow_sub_one_eq_mod, BitVec.toNat_ofInt]
  have hd : (2 : Int) ^ i ∣ ((2 ^ 64 : Nat) : Int) := by
    have : (2 : Nat) ^ i ∣ 2 ^ 64 := Nat.pow_dvd_pow 2 (by omega)
    have := Int.natCast_dvd_natCast.2 this
    simpa using this
  have h3 : (((x % ((2 ^ 64 : Nat) : Int)).toNat % 2 ^ i : Nat) : Int) = x % 2 ^ i := by
    rw [Int.natCast_emod, Int.toNat_of_nonneg (Int.emod_nonneg _ (by decide))]
    simpa using Int.emod_emod_of_dvd x hd
  rw [h3, IntKind.wrap_i64]
  have h4 : (0 : Int) < 2 ^ i := Int.pow_pos (by decide)
  have h5 : (2 : Int) ^ i < 9223372036854775808 := by
    have := Int.ofNat_lt.2 h2
    simpa using this
  have h6 := Int.emod_nonneg x (show (2 : Int) ^ i ≠ 0 by omega)
  have h7 := Int.emod_lt_of_pos x h4
  omega
theorem and1 (x : Int) : Go.bits .and .i64 x 1 = x % 2 := and_mask x 1 (by decide)
def In64 (l : List Int) : Prop := ∀ j : Nat, j < l.length → -9223372036854775808 ≤ rd l (j : Nat) ∧ rd l (j : Nat) ≤ 9223372036854775807
theorem rd_mem (l : List Int) (j : Nat) (h : j < l.length) : rd l (j : Nat) ∈ l := by
  simp [rd, List.getD_eq_getElem?_getD, h]
theorem in64_of (l : List Int) (h : ∀ x ∈ l, (Lit.int .i64 x).wf = true) : In64 l := by
  intro j hj
  have := h _ (rd_mem l j hj)
  simp [Lit.wf, IntKind.min, IntKind.max, IntKind.bits, IntKind.signed] at this
  omega
theorem bv_zero (x : Int) (h : -9223372036854775808 ≤ x ∧ x ≤ 9223372036854775807) : BitVec.ofInt 64 x = 0#64 ↔ x = 0 := by
  constructor
  · intro e
    have := congrArg BitVec.toInt e
    rw [BitVec.toInt_ofInt] at this
    simp [Int.bmod_def] at this
    omega
  · intro e; subst e; rfl
theorem bv_mod (x : Int) (i : Nat) (hi : i < 63) : BitVec.ofInt 64 x &&& BitVec.ofInt 64 ((2 ^ i - 1 : Nat) : Int) = 0#64 ↔ x % 2 ^ i = 0 := by
  have h := and_mask x i hi
  have e : Go.bits .and .i64 x (2 ^ i - 1 : Nat) = IntKind.i64.wrap ((BitVec.ofInt 64 x &&& BitVec.ofInt 64 ((2 ^ i - 1 : Nat) : Int)).toNat : Int) := rfl
  rw [e] at h
  constructor
  · intro q; rw [q] at h; rw [← h]; rfl
  · intro q
    rw [q] at h
    generalize BitVec.ofInt 64 x &&& BitVec.ofInt 64 ((2 ^ i - 1 : Nat) : Int) = b at h
    have hb := b.isLt
    apply BitVec.eq_of_toNat_eq
    simp [IntKind.wrap_i64] at h ⊢
    omega
theorem or_range (x y : Int) : -9223372036854775808 ≤ Go.bits .or .i64 x y ∧ Go.bits .or .i64 x y ≤ 9223372036854775807 := by
  have e : Go.bits .or .i64 x y = IntKind.i64.wrap ((BitVec.ofInt 64 x ||| BitVec.ofInt 64 y).toNat : Int) := rfl
  rw [e, IntKind.wrap_i64]; omega
theorem or_bv (x y : Int) : BitVec.ofInt 64 (Go.bits .or .i64 x y) = BitVec.ofInt 64 x ||| BitVec.ofInt 64 y := by
  have e : Go.bits .or .i64 x y = IntKind.i64.wrap ((BitVec.ofInt 64 x ||| BitVec.ofInt 64 y).toNat : Int) := rfl
  rw [e, IntKind.wrap_i64]
  generalize BitVec.ofInt 64 x ||| BitVec.ofInt 64 y = b
  have hb := b.isLt
  apply BitVec.eq_of_toNat_eq
  rw [BitVec.toNat_ofInt]
  omega
theorem or_zero (x y : Int) (hx : -9223372036854775808 ≤ x ∧ x ≤ 9223372036854775807) (hy : -9223372036854775808 ≤ y ∧ y ≤ 9223372036854775807) : Go.bits .or .i64 x y = 0 ↔ x = 0 ∧ y = 0 := by
  rw [← bv_zero _ (or_range x y), or_bv, ← bv_zero x hx, ← bv_zero y hy]
  exact BitVec.or_eq_zero_iff
theorem or_mod (x y : Int) (i : Nat) (hi : i < 63) : Go.bits .or .i64 x y % 2 ^ i = 0 ↔ x % 2 ^ i = 0 ∧ y % 2 ^ i = 0 := by
  rw [← bv_mod _ i hi, or_bv, ← bv_mod x i hi, ← bv_mod y i hi]
  generalize BitVec.ofInt 64 x = a
  generalize BitVec.ofInt 64 y = b
  generalize BitVec.ofInt 64 ((2 ^ i - 1 : Nat) : Int) = m
  rw [BitVec.and_comm, BitVec.and_or_distrib_left, BitVec.and_comm m a, BitVec.and_comm m b]
  exact BitVec.or_eq_zero_iff
/-- The 'or' of the first so many. -/
def orTo (l : List Int) : Nat → Int
  | 0 => 0
  | i + 1 => Go.bits .or .i64 (orTo l i) (rd l (i : Nat))
theorem orTo_range (l : List Int) : ∀ i, -9223372036854775808 ≤ orTo l i ∧ orTo l i ≤ 9223372036854775807
  | 0 => by simp [orTo]
  | i + 1 => or_range _ _
theorem orTo_zero (l : List Int) (h : In64 l) : ∀ i, i ≤ l.length → (orTo l i = 0 ↔ ∀ j : Nat, j < i → rd l (j : Nat) = 0)
  | 0, _ => by simp [orTo]
  | i + 1, hi => by
    rw [orTo, or_zero _ _ (orTo_range l i) (h i (by omega)), orTo_zero l h i (by omega)]
    constructor
    · intro q j hj
      by_cases e : j = i
      · subst e; exact q.2
      · exact q.1 j (by omega)
    · intro q; exact ⟨fun j hj => q j (by omega), q i (by omega)⟩
theorem orTo_mod (l : List Int) (n : Nat) (hn : n < 63) : ∀ i, (orTo l i % 2 ^ n = 0 ↔ ∀ j : Nat, j < i → rd l (j : Nat) % 2 ^ n = 0)
  | 0 => by simp [orTo]
  | i + 1 => by
    rw [orTo, or_mod _ _ _ hn, orTo_mod l n hn i]
    constructor
    · intro q j hj
      by_cases e : j = i
      · subst e; exact q.2
      · exact q.1 j (by omega)
    · intro q; exact ⟨fun j hj => q j (by omega), q i (by omega)⟩
/-- How often two divides, at the most so many times more. -/
def wst (o : Int) : Nat → Nat → Nat
  | 0, n => n
  | d + 1, n => if o % 2 ^ (n + 1) = 0 then wst o d (n + 1) else n
/-- The wasted bits. -/
def wasted (l : List Int) : Nat := if orTo l l.length = 0 then 0 else wst (orTo l l.length) 31 0
theorem half (o : Int) (n : Nat) (h : o % 2 ^ n = 0) : ((o / 2 ^ n) % 2 = 0 ↔ o % 2 ^ (n + 1) = 0) ∧ (o / 2 ^ n) / 2 = o / 2 ^ (n + 1) ∧ (o / 2 ^ n = 0 ↔ o = 0) := by
  have hp : (0 : Int) < 2 ^ n := Int.pow_pos (by decide)
  obtain ⟨q, rfl⟩ := Int.dvd_of_emod_eq_zero h
  have e1 : (2 : Int) ^ n * q / 2 ^ n = q := Int.mul_ediv_cancel_left _ (by omega)
  rw [e1, Int.pow_succ, Int.mul_emod_mul_of_pos _ _ hp, Int.mul_ediv_mul_of_pos _ _ hp]
  refine ⟨?_, rfl, ?_⟩
  · constructor
    · intro h; rw [h]; simp
    · intro h
      rcases Int.mul_eq_zero.1 h with h | h
      · omega
      · exact h
  · constructor
    · intro h; rw [h]; simp
    · intro h
      rcases Int.mul_eq_zero.1 h with h | h
      · omega
      · exact h
theorem wasted_l1 (o : Int) (ho : o ≠ 0) : ∀ d n : Nat, n + d = 31 → o % 2 ^ n = 0 → Ev (fun k => predict_Wasted.l1 k (o / 2 ^ n) (n : Int)) (wst o d n : Int)
  | 0, n, e, h => by
    obtain ⟨h1, h2, h3⟩ := half o n h
    refine Ev.step (fun k => predict_Wasted.l1.eq_2 _ _ _) ?_
    have : n = 31 := by omega
    subst this
    simp only [show ¬ (o / 2 ^ 31 = 0) from fun q => ho (h3.1 q), if_false, and1]
    simp only [show ¬ (((31 : Nat) : Int) < 31) by decide, if_false, ite_self]
    exact Ev.now _
  | d + 1, n, e, h => by
    obtain ⟨h1, h2, h3⟩ := half o n h
    refine Ev.step (fun k => predict_Wasted.l1.eq_2 _ _ _) ?_
    simp only [show ¬ (o / 2 ^ n = 0) from fun q => ho (h3.1 q), if_false, and1, wst]
    by_cases h4 : o % 2 ^ (n + 1) = 0
    · simp only [h1.2 h4, h4, if_true, show ((n : Int) < 31) by omega, h2, wrap_id ((n : Int) + 1) (by omega) (by omega)]
      exact wasted_l1 o ho d (n + 1) (by omega) h4
    · simp only [show ¬ (o / 2 ^ n % 2 = 0) from fun q => h4 (h1.1 q), h4, if_false]
      exact Ev.now _
theorem wasted_l0 (l : List Int) (hl : l.length < 9223372036854775807) : ∀ d i : Nat, i + d = l.length → Ev (fun k => predict_Wasted.l0 k (orTo l i) l (l.length : Int) (i : Int)) (wasted l : Int)
  | 0, i, e => by
    have : i = l.length := by omega
    subst this
    refine Ev.step (fun k => predict_Wasted.l0.eq_2 _ _ _ _ _) ?_
    simp only [Int.lt_irrefl, if_false]
    unfold wasted
    by_cases ho : orTo l l.length = 0
    · rw [if_pos ho, ho]
      refine Ev.step (fun k => predict_Wasted.l1.eq_2 _ _ _) ?_
      simp only [if_true]
      exact Ev.now _
    · rw [if_neg ho]
      have := wasted_l1 (orTo l l.length) ho 31 0 (by omega) (by simp)
      simpa using this
  | d + 1, i, e => by
    refine Ev.step (fun k => predict_Wasted.l0.eq_2 _ _ _ _ _) ?_
    simp only [show ((i : Int) < (l.length : Int)) by omega, show (0 : Int) ≤ (i : Int) by omega, if_true, wrap_id ((i : Int) + 1) (by omega) (by omega)]
    exact wasted_l0 l hl d (i + 1) (by omega)
theorem Wasted_ev (l : List Int) (hl : l.length < 9223372036854775807) : Ev (fun k => predict_Wasted.f k l) (wasted l : Int) := by
  unfold predict_Wasted.f
  exact wasted_l0 l hl l.length 0 (by omega)
theorem shr_is (x : Int) (n : Nat) (h : n ≤ 31) : shr .i64 x (n : Int) = x / 2 ^ n := by
  unfold shr
  rw [Nat.min_eq_left (by simp [IntKind.bits]; omega)]
  rfl
theorem shl_is (x : Int) (n : Nat) (h : n ≤ 31) : shl .i64 x (n : Int) = wrap64 (x * 2 ^ n) := by
  unfold shl
  rw [Nat.min_eq_left (by simp [IntKind.bits]; omega)]
  exact i64_w _
theorem pow31 (n : Nat) (h : n ≤ 31) : (0 : Int) < 2 ^ n ∧ (2 : Int) ^ n ≤ 2147483648 := by
  have : (2 : Nat) ^ n ≤ 2 ^ 31 := Nat.pow_le_pow_right (by decide) h
  have h2 : ((2 ^ n : Nat) : Int) ≤ ((2 ^ 31 : Nat) : Int) := Int.ofNat_le.2 this
  exact ⟨Int.pow_pos (by decide), by simpa using h2⟩
theorem back_range (x : Int) (n : Nat) (hn : n ≤ 31) (h : -9223372036854775808 ≤ x ∧ x ≤ 9223372036854775807) : -9223372036854775808 ≤ x / 2 ^ n * 2 ^ n ∧ x / 2 ^ n * 2 ^ n ≤ 9223372036854775807 := by
  have hp := (pow31 n hn).1
  have e : x / 2 ^ n * 2 ^ n = x - x % 2 ^ n := by
    have := Int.mul_ediv_add_emod x (2 ^ n)
    rw [Int.mul_comm] at this; omega
  have h1 := Int.emod_nonneg x (show (2 : Int) ^ n ≠ 0 by omega)
  have h2 := Int.emod_lt_of_pos x hp
  refine ⟨?_, by omega⟩
  have h3 : (-9223372036854775808 : Int) % 2 ^ n = 0 := by
    apply Int.emod_eq_zero_of_dvd
    have : (2 : Nat) ^ n ∣ 2 ^ 63 := Nat.pow_dvd_pow 2 (by omega)
    have h4 := Int.natCast_dvd_natCast.2 this
    have : (2 : Int) ^ n ∣ 9223372036854775808 := by simpa using h4
    exact (Int.dvd_neg (a := (2 : Int) ^ n) (b := 9223372036854775808)).2 this
  have h5 : (-9223372036854775808 : Int) / 2 ^ n ≤ x / 2 ^ n := Int.ediv_le_ediv hp h.1
  have h6 : (-9223372036854775808 : Int) / 2 ^ n * 2 ^ n = -9223372036854775808 := by
    have := Int.mul_ediv_add_emod (-9223372036854775808) (2 ^ n)
    rw [h3, Int.mul_comm] at this; omega
  have := Int.mul_le_mul_of_nonneg_right h5 (Int.le_of_lt hp)
  omega
theorem shl_shr (x : Int) (n : Nat) (hn : n ≤ 31) (h : -9223372036854775808 ≤ x ∧ x ≤ 9223372036854775807) : shl .i64 (shr .i64 x (n : Int)) (n : Int) = x ↔ x % 2 ^ n = 0 := by
  rw [shr_is x n hn, shl_is _ n hn, wrap_id _ (back_range x n hn h).1 (back_range x n hn h).2]
  have := Int.mul_ediv_add_emod x (2 ^ n)
  rw [Int.mul_comm] at this
  omega
/-- All divided; all times. -/
def downTo (l : List Int) (n : Nat) (i : Nat) : List Int := (List.range i).map fun j => rd l (j : Nat) / 2 ^ n
def upTo (l : List Int) (n : Nat) (i : Nat) : List Int := (List.range i).map fun j => wrap64 (rd l (j : Nat) * 2 ^ n)
theorem downTo_snoc (l : List Int) (n i : Nat) : downTo l n (i + 1) = downTo l n i ++ [rd l (i : Nat) / 2 ^ n] := by simp [downTo, List.range_succ]
theorem upTo_snoc (l : List Int) (n i : Nat) : upTo l n (i + 1) = upTo l n i ++ [wrap64 (rd l (i : Nat) * 2 ^ n)] := by simp [upTo, List.range_succ]
theorem downTo_length (l : List Int) (n i : Nat) : (downTo l n i).length = i := by simp [downTo]
theorem upTo_length (l : List Int) (n i : Nat) : (upTo l n i).length = i := by simp [upTo]
def shiftF (l : List Int) (by_ : Int) : List Int × Int := if 0 ≤ by_ ∧ by_ ≤ 31 ∧ orTo l l.length % 2 ^ by_.toNat = 0 then (downTo l by_.toNat l.length, 0) else ([], 1)
def unshiftF (l : List Int) (by_ : Int) : List Int × Int := if 0 ≤ by_ ∧ by_ ≤ 31 then (upTo l by_.toNat l.length, 0) else ([], 1)
theorem shift_loop (l : List Int) (n : Nat) (hn : n ≤ 31) (hi : In64 l) (h : l.length < 17592186044416) : ∀ d i : Nat, i + d = l.length → (∀ j : Nat, j < i → rd l (j : Nat) % 2 ^ n = 0) →
    Ev (fun k => predict_Shift.l0 k (n : Int) (downTo l n i) l (l.length : Int) (i : Int)) (if orTo l l.length % 2 ^ n = 0 then (downTo l n l.length, 0) else ([], 1))
  | 0, i, e, hz => by
    have : i = l.length := by omega
    subst this
    refine Ev.step (fun k => predict_Shift.l0.eq_2 _ _ _ _ _ _) ?_
    simp only [Int.lt_irrefl, if_false, (orTo_mod l n (by omega) l.length).2 hz, if_true]
    exact Ev.now _
  | d + 1, i, e, hz => by
    refine Ev.step (fun k => predict_Shift.l0.eq_2 _ _ _ _ _ _) ?_
    simp only [show ((i : Int) < (l.length : Int)) by omega, show (0 : Int) ≤ (i : Int) by omega, show (0 : Int) ≤ (n : Int) by omega, if_true, wrap_id ((i : Int) + 1) (by omega) (by omega), downTo_length, show i < 17592186044416 by omega]
    by_cases h1 : rd l (i : Nat) % 2 ^ n = 0
    · simp only [(shl_shr _ n hn (hi i (by omega))).2 h1, if_true]
      have ih := shift_loop l n hn hi h d (i + 1) (by omega) (fun j hj => by
        by_cases e2 : j = i
        · subst e2; exact h1
        · exact hz j (by omega))
      rw [downTo_snoc] at ih
      rw [shr_is _ n hn]
      exact ih
    · simp only [show ¬ (shl .i64 (shr .i64 (rd l (i : Int)) (n : Int)) (n : Int) = rd l (i : Int)) from fun q => h1 ((shl_shr _ n hn (hi i (by omega))).1 q), if_false,
        show ¬ (orTo l l.length % 2 ^ n = 0) from fun q => h1 ((orTo_mod l n (by omega) l.length).1 q i (by omega))]
      exact Ev.now _
theorem Shift_ev (l : List Int) (b : Int) (hi : In64 l) (h : l.length < 17592186044416) : Ev (fun k => predict_Shift.f k l b) (shiftF l b) := by
  have no : Ev (fun k => predict_Shift.j0 k l b true) ([], 1) := by
    refine Ev.step (fun k => predict_Shift.j0.eq_2 _ _ _ _) ?_
    exact Ev.now _
  unfold predict_Shift.f shiftF
  by_cases h1 : b < 0
  · simp only [h1, if_true, show ¬ (0 ≤ b) by omega, false_and, if_false]
    exact no
  by_cases h2 : b > 31
  · simp only [h1, h2, if_false, decide_true, show ¬ (b ≤ 31) by omega, false_and, and_false]
    exact no
  obtain ⟨n, rfl⟩ : ∃ n : Nat, b = n := ⟨b.toNat, by omega⟩
  simp only [h1, h2, if_false, decide_false, show (0 : Int) ≤ (n : Int) by omega, show (n : Int) ≤ 31 by omega, true_and, Int.toNat_natCast]
  refine Ev.step (fun k => predict_Shift.j0.eq_2 _ _ _ _) ?_
  simp only [Bool.false_eq_true, if_false]
  exact shift_loop l n (by omega) hi h l.length 0 (by omega) (fun j hj => absurd hj (by omega))
theorem unshift_loop (l : List Int) (n : Nat) (hn : n ≤ 31) (h : l.length < 17592186044416) : ∀ d i : Nat, i + d = l.length →
    Ev (fun k => predict_Unshift.l0 k (n : Int) (upTo l n i) l (l.length : Int) (i : Int)) (upTo l n l.length, 0)
  | 0, i, e => by
    have : i = l.length := by omega
    subst this
    refine Ev.step (fun k => predict_Unshift.l0.eq_2 _ _ _ _ _ _) ?_
    simp only [Int.lt_irrefl, if_false]
    exact Ev.now _
  | d + 1, i, e => by
    refine Ev.step (fun k => predict_Unshift.l0.eq_2 _ _ _ _ _ _) ?_
    simp only [show ((i : Int) < (l.length : Int)) by omega, show (0 : Int) ≤ (i : Int) by omega, show (0 : Int) ≤ (n : Int) by omega, if_true, wrap_id ((i : Int) + 1) (by omega) (by omega), upTo_length, show i < 17592186044416 by omega, shl_is _ n hn]
    have ih := unshift_loop l n hn h d (i + 1) (by omega)
    rw [upTo_snoc] at ih
    exact ih
theorem Unshift_ev (l : List Int) (b : Int) (h : l.length < 17592186044416) : Ev (fun k => predict_Unshift.f k l b) (unshiftF l b) := by
  have no : Ev (fun k => predict_Unshift.j0 k l b true) ([], 1) := by
    refine Ev.step (fun k => predict_Unshift.j0.eq_2 _ _ _ _) ?_
    exact Ev.now _
  unfold predict_Unshift.f unshiftF
  by_cases h1 : b < 0
  · simp only [h1, if_true, show ¬ (0 ≤ b) by omega, false_and, if_false]
    exact no
  by_cases h2 : b > 31
  · simp only [h1, h2, if_false, decide_true, show ¬ (b ≤ 31) by omega, and_false]
    exact no
  obtain ⟨n, rfl⟩ : ∃ n : Nat, b = n := ⟨b.toNat, by omega⟩
  simp only [h1, h2, if_false, decide_false, show (0 : Int) ≤ (n : Int) by omega, show (n : Int) ≤ 31 by omega, true_and, and_self, if_true, Int.toNat_natCast]
  refine Ev.step (fun k => predict_Unshift.j0.eq_2 _ _ _ _) ?_
  simp only [Bool.false_eq_true, if_false]
  exact unshift_loop l n (by omega) h l.length 0 (by omega)
theorem shiftF_length (l : List Int) (b : Int) : (shiftF l b).1.length ≤ l.length := by
  unfold shiftF
  split <;> simp [downTo_length]
theorem unshiftF_length (l : List Int) (b : Int) : (unshiftF l b).1.length ≤ l.length := by
  unfold unshiftF
  split <;> simp [upTo_length]
set_option maxRecDepth 100000 in
theorem awake_ev : Ev (fun k => lacquerlaw09_awake.f k) true := Ev.of lacquerlaw09_awake.mono (k := 12) (by decide +kernel)
theorem may_eq (coefs : List Int) (shift : Int) : lacquerref09_may.f coefs shift = some (decide (Hand.mayF coefs shift)) := by
  unfold lacquerref09_may.f
  by_cases h1 : (coefs.length : Int) ≥ 1
  · by_cases h2 : (coefs.length : Int) ≤ 32
    · by_cases h3 : shift ≥ 0
      · rw [if_pos h1, if_pos h2, if_pos h3]
        congr 1
        by_cases h4 : shift ≤ 31
        · rw [decide_eq_true h4, decide_eq_true (show Hand.mayF coefs shift from ⟨by omega, by omega, h3, h4⟩)]
        · rw [decide_eq_false h4, decide_eq_false (show ¬ Hand.mayF coefs shift from fun q => h4 q.2.2.2)]
      · rw [if_pos h1, if_pos h2, if_neg h3, decide_eq_false (show ¬ Hand.mayF coefs shift from fun q => h3 q.2.2.1)]
    · rw [if_pos h1, if_neg h2, decide_eq_false (show ¬ Hand.mayF coefs shift from fun q => by have := q.2.1; omega)]
  · rw [if_neg h1, decide_eq_false (show ¬ Hand.mayF coefs shift from fun q => by have := q.1; omega)]
theorem Lpc_ev (coefs l : List Int) (shift : Int) (hl : l.length < 17592186044416) : Ev (fun k => lacquerref09_Lpc.f k coefs shift l) (Hand.lpcF coefs shift l) := by
  unfold lacquerref09_Lpc.f Hand.lpcF
  rw [may_eq]
  simp only [Option.bind_some]
  by_cases h : Hand.mayF coefs shift
  · simp only [h, decide_true, if_true, true_and]
    by_cases h2 : (l.length : Int) < (coefs.length : Int)
    · simp only [h2, if_true, show ¬ coefs.length ≤ l.length by omega, if_false]
      exact Ev.now _
    · simp only [h2, if_false, show coefs.length ≤ l.length by omega, if_true]
      exact Ev.bind (left_ev coefs l shift hl (by omega) h.2.2.1 h.2.2.2) (Ev.now _)
  · simp only [h, decide_false, Bool.false_eq_true, if_false, false_and]
    exact Ev.now _
theorem Unlpc_eq (coefs warm l : List Int) (shift : Int) (hl : l.length * 8 ≤ 140737488351232) : lacquerref09_Unlpc.f coefs shift warm l = some (Hand.unlpcF coefs shift warm l) := by
  unfold lacquerref09_Unlpc.f Hand.unlpcF
  rw [may_eq]
  simp only [Option.bind_some]
  by_cases h : Hand.mayF coefs shift
  · simp only [h, decide_true, if_true, true_and]
    by_cases h2 : (warm.length : Int) = (coefs.length : Int)
    · have h3 : warm.length = coefs.length := by omega
      have hm := h
      obtain ⟨m1, m2, m3, m4⟩ := hm
      rw [if_pos h2, if_pos h3]
      unfold lacquerref09_whole.f
      rw [if_pos ⟨by omega, m3, m4, by omega⟩]
      rfl
    · rw [if_neg h2, if_neg (by omega)]
  · simp only [h, decide_false, Bool.false_eq_true, if_false, false_and]
theorem lpcF_length (coefs l : List Int) (shift : Int) : (Hand.lpcF coefs shift l).1.length ≤ l.length := by
  unfold Hand.lpcF
  split
  · simp only [Hand.leftTo_length]; omega
  · simp
theorem unlpcF_length (coefs w l : List Int) (shift : Int) : (Hand.unlpcF coefs shift w l).1.length ≤ 32 + l.length := by
  unfold Hand.unlpcF
  split
  · rename_i h
    have := h.1.2.1
    rw [Hand.wholeTo_length]; omega
  · simp
/-- What was left over comes back. -/
theorem whole_back (C : List Int) (s : Int) (l : List Int) (hi : In64 l) (m : Nat) (hm : m ≤ l.length) : ∀ d, m + d ≤ l.length → Hand.wholeTo C s (l.take m) (Hand.leftTo C s l m (l.length - m)) d = l.take (m + d)
  | 0, _ => rfl
  | d + 1, h => by
    have hx : rd (Hand.leftTo C s l m (l.length - m)) (d : Nat) = wrap64 (rd l ((m + d : Nat) : Int) - Hand.foretell C s (l.take (m + d))) := by
      unfold Hand.leftTo
      rw [show rd ((List.range' m (l.length - m)).map fun j => wrap64 (rd l (j : Nat) - Hand.foretell C s (l.take j))) (d : Nat) = ((List.range' m (l.length - m)).map fun j => wrap64 (rd l (j : Nat) - Hand.foretell C s (l.take j))).getD d 0 by unfold rd; rw [Int.toNat_natCast]]
      rw [List.getD_eq_getElem?_getD, List.getElem?_map, List.getElem?_range' (by omega)]
      simp
    rw [Hand.wholeTo, whole_back C s l hi m hm d (by omega), hx]
    have hr := hi (m + d) (by omega)
    have hw : wrap64 (wrap64 (rd l ((m + d : Nat) : Int) - Hand.foretell C s (l.take (m + d))) + Hand.foretell C s (l.take (m + d))) = rd l ((m + d : Nat) : Int) := by
      generalize Hand.foretell C s (l.take (m + d)) = f
      generalize rd l ((m + d : Nat) : Int) = x at hr ⊢
      unfold wrap64
      omega
    rw [hw, show m + (d + 1) = (m + d) + 1 by omega, List.take_succ_eq_append_getElem (by omega)]
    congr 1
    rw [show rd l ((m + d : Nat) : Int) = l.getD (m + d) 0 by unfold rd; rw [Int.toNat_natCast]]
    simp [List.getD_eq_getElem?_getD, show m + d < l.length by omega]
theorem fixed_back (order : Int) (l : List Int) (hi : In64 l) (h : (Hand.fixedF order l).2 = 0) : 0 ≤ order ∧ order ≤ (l.length : Int) ∧ Hand.unfixedF order (l.take order.toNat) (Hand.fixedF order l).1 = (l, 0) := by
  unfold Hand.fixedF at h ⊢
  by_cases c : 0 ≤ order ∧ order ≤ 4 ∧ order ≤ (l.length : Int)
  · have hn := Hand.fixedC_length (order := order) c.1 c.2.1
    refine ⟨c.1, c.2.2, ?_⟩
    rw [if_pos c]
    unfold Hand.unfixedF
    rw [if_pos ⟨c.1, c.2.1, by rw [List.length_take]; omega⟩]
    have e : order.toNat = (Hand.fixedC order).length := by omega
    rw [e, Hand.leftTo_length, whole_back _ _ _ hi _ (by omega) _ (by omega), show (Hand.fixedC order).length + (l.length - (Hand.fixedC order).length) = l.length by omega, List.take_length]
  · rw [if_neg c] at h
    simp at h
theorem lpc_back (C : List Int) (s : Int) (l : List Int) (hi : In64 l) (h : (Hand.lpcF C s l).2 = 0) : C.length ≤ l.length ∧ Hand.unlpcF C s (l.take C.length) (Hand.lpcF C s l).1 = (l, 0) := by
  unfold Hand.lpcF at h ⊢
  by_cases c : Hand.mayF C s ∧ C.length ≤ l.length
  · refine ⟨c.2, ?_⟩
    rw [if_pos c]
    unfold Hand.unlpcF
    rw [if_pos ⟨c.1, by rw [List.length_take]; have := c.2; omega⟩, Hand.leftTo_length, whole_back _ _ _ hi _ c.2 _ (by have := c.2; omega), show C.length + (l.length - C.length) = l.length by have := c.2; omega, List.take_length]
  · rw [if_neg c] at h
    simp at h
theorem wst_ok (o : Int) : ∀ d n : Nat, n + d = 31 → o % 2 ^ n = 0 → wst o d n ≤ 31 ∧ o % 2 ^ (wst o d n) = 0
  | 0, n, h, hm => ⟨by unfold wst; omega, hm⟩
  | d + 1, n, h, hm => by
    unfold wst
    split
    · rename_i h2
      exact wst_ok o d (n + 1) (by omega) h2
    · exact ⟨by omega, hm⟩
theorem wasted_ok (l : List Int) : wasted l ≤ 31 ∧ orTo l l.length % 2 ^ (wasted l) = 0 := by
  unfold wasted
  split
  · rename_i h
    rw [h]
    exact ⟨by omega, by simp⟩
  · exact wst_ok _ 31 0 (by omega) (by simp [Int.emod_one])
theorem shift_back (l : List Int) (hi : In64 l) : (shiftF l (wasted l : Int)).2 = 0 ∧ unshiftF (shiftF l (wasted l : Int)).1 (wasted l : Int) = (l, 0) := by
  obtain ⟨h1, h2⟩ := wasted_ok l
  have hm := (orTo_mod l (wasted l) (by omega) l.length).1 h2
  generalize wasted l = n at h1 h2 hm ⊢
  have e : shiftF l (n : Int) = (downTo l n l.length, 0) := by
    unfold shiftF
    rw [Int.toNat_natCast, if_pos ⟨by omega, by omega, h2⟩]
  rw [e]
  refine ⟨rfl, ?_⟩
  unfold unshiftF
  rw [if_pos ⟨by omega, by omega⟩, Int.toNat_natCast, downTo_length]
  congr 1
  apply List.ext_getElem
  · rw [upTo_length]
  · intro j hj1 hj2
    rw [upTo_length] at hj1
    have hd : rd (downTo l n l.length) (j : Nat) = rd l (j : Nat) / 2 ^ n := by
      rw [show rd (downTo l n l.length) (j : Nat) = (downTo l n l.length).getD j 0 by unfold rd; rw [Int.toNat_natCast]]
      simp [downTo, List.getD_eq_getElem?_getD, hj1]
    have h3 := hm j hj1
    have h4 := hi j hj1
    have h5 : rd l (j : Nat) / 2 ^ n * 2 ^ n = rd l (j : Nat) := Int.ediv_mul_cancel (Int.dvd_of_emod_eq_zero h3)
    have h6 : rd l (j : Nat) = l[j] := by simp [rd, hj2]
    simp only [upTo, List.getElem_map, List.getElem_range, hd, h5]
    rw [wrap_id _ h4.1 h4.2, h6]
end Go.Proofs.Ytbbedocehejfgaa.MathT
