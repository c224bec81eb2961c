/- The plain laws of PredictStereo and PredictModes. -/
import Derived.Test.YtbbedocehejfgaaMathB
import Derived.Test.YtbbedocehejfgaaQx5
namespace Go.Proofs.Ytbbedocehejfgaa.Math
open Go.RowKit Go.Proofs.Ytbbedocehejfgaa Go.Proofs.Ytbbedocehejfgaa.Q Go.Proofs.YtbbedocehejfgaaW.PrintWords Go.Proofs.YtbbedocehejfgaaW.PrintLast Go.Proofs.YtbbedocehejfgaaW.PrintMore
set_option linter.unusedVariables false
set_option linter.unusedSimpArgs false

instance (most x : Int) : Decidable (Hand.inside most x) := by unfold Hand.inside; infer_instance
theorem within_loop (a : List Int) (most : Int) (h0 : 0 ≤ most) (h9 : most ≤ 4611686018427387904) (h : a.length < 9223372036854775807) : ∀ d i : Nat, i + d = a.length → (∀ j : Nat, j < i → Hand.inside most (rd a (j : Nat))) →
    Ev (fun k => lacquerref09_within.l0 k a most (i : Int)) (decide (∀ j : Nat, j < a.length → Hand.inside most (rd a (j : Nat))))
  | 0, i, e, hi => by
    refine Ev.step (fun k => lacquerref09_within.l0.eq_2 _ _ _ _) ?_
    simp only [show ¬ ((i : Int) < (a.length : Int)) by omega, if_false]
    have e1 : decide (∀ j : Nat, j < a.length → Hand.inside most (rd a (j : Nat))) = true := decide_eq_true (fun j hj => hi j (by omega))
    rw [e1]
    exact Ev.now _
  | d + 1, i, e, hi => by
    refine Ev.step (fun k => lacquerref09_within.l0.eq_2 _ _ _ _) ?_
    simp only [show ((i : Int) < (a.length : Int)) by omega, show (0 : Int) ≤ (i : Int) by omega, if_true, wrap_id ((i : Int) + 1) (by omega) (by omega), wrap_id (-most) (by omega) (by omega)]
    by_cases h1 : rd a (i : Nat) > most
    · simp only [h1, if_true]
      have e1 : decide (∀ j : Nat, j < a.length → Hand.inside most (rd a (j : Nat))) = false := decide_eq_false (fun hh => by have := hh i (by omega); unfold Hand.inside at this; omega)
      rw [e1]
      exact Ev.now _
    by_cases h2 : rd a (i : Nat) < -most
    · simp only [h1, h2, if_true, if_false]
      have e1 : decide (∀ j : Nat, j < a.length → Hand.inside most (rd a (j : Nat))) = false := decide_eq_false (fun hh => by have := hh i (by omega); unfold Hand.inside at this; omega)
      rw [e1]
      exact Ev.now _
    simp only [h1, h2, if_false]
    refine within_loop a most h0 h9 h d (i + 1) (by omega) (fun j hj => ?_)
    by_cases e2 : j = i
    · subst e2; unfold Hand.inside; omega
    · exact hi j (by omega)
theorem within_ev (a : List Int) (most : Int) (h0 : 0 ≤ most) (h9 : most ≤ 4611686018427387904) (h : a.length < 9223372036854775807) : Ev (fun k => lacquerref09_within.f k a most) (decide (∀ j : Nat, j < a.length → Hand.inside most (rd a (j : Nat)))) := by
  unfold lacquerref09_within.f
  exact within_loop a most h0 h9 h a.length 0 (by omega) (fun j hj => absurd hj (by omega))
theorem stereo_loop (mode : Int) (a b : List Int) (he : a.length = b.length) (h : a.length < 17592186044416) : ∀ d i : Nat, i + d = a.length →
    Ev (fun k => lacquerref09_Stereo.l0 k mode a b (Hand.twoL (Hand.stereo2 mode) a b i) (Hand.twoR (Hand.stereo2 mode) a b i) (i : Int)) (Hand.twoL (Hand.stereo2 mode) a b a.length, Hand.twoR (Hand.stereo2 mode) a b a.length, 0)
  | 0, i, e => by
    refine Ev.step (fun k => lacquerref09_Stereo.l0.eq_2 _ _ _ _ _ _ _) ?_
    simp only [show ¬ ((i : Int) < (a.length : Int)) by omega, if_false]
    have : i = a.length := by omega
    subst this
    exact Ev.now _
  | d + 1, i, e => by
    refine Ev.step (fun k => lacquerref09_Stereo.l0.eq_2 _ _ _ _ _ _ _) ?_
    simp only [show ((i : Int) < (a.length : Int)) by omega, show ((i : Int) < (b.length : Int)) by omega, show (0 : Int) ≤ (i : Int) by omega, if_true, wrap_id ((i : Int) + 1) (by omega) (by omega), Hand.twoL_length, Hand.twoR_length, show i < 17592186044416 by omega]
    have ih := stereo_loop mode a b he h d (i + 1) (by omega)
    rw [Hand.twoL_snoc, Hand.twoR_snoc] at ih
    have e3 : ((i + 1 : Nat) : Int) = (i : Int) + 1 := by omega
    rw [e3] at ih
    revert ih
    generalize rd a (i : Int) = x
    generalize rd b (i : Int) = y
    intro ih
    unfold Hand.stereo2 at ih ⊢
    by_cases m1 : mode = 1
    · subst m1; exact ih
    by_cases m2 : mode = 2
    · subst m2; exact ih
    by_cases m3 : mode = 3
    · subst m3; exact ih
    simp only [m1, m2, m3, if_false] at ih ⊢
    exact ih
theorem okTo_iff (most : Int) (a b : List Int) (he : a.length = b.length) :
    Hand.okTo most a b a.length ↔ (∀ j : Nat, j < a.length → Hand.inside most (rd a (j : Nat))) ∧ (∀ j : Nat, j < b.length → Hand.inside most (rd b (j : Nat))) := by
  unfold Hand.okTo
  constructor
  · intro h; exact ⟨fun j hj => (h j hj).1, fun j hj => (h j (by omega)).2⟩
  · intro h j hj; exact ⟨h.1 j hj, h.2 j (by omega)⟩
theorem Stereo_ev (mode : Int) (a b : List Int) (h : a.length < 17592186044416) (h2 : b.length < 17592186044416) : Ev (fun k => lacquerref09_Stereo.f k mode a b) (Hand.stereoF mode a b) := by
  have no : Ev (fun k => lacquerref09_Stereo.j0 k mode a b true) ([], [], 1) := by
    refine Ev.step (fun k => lacquerref09_Stereo.j0.eq_2 _ _ _ _ _) ?_
    exact Ev.now _
  unfold lacquerref09_Stereo.f Hand.stereoF
  by_cases h1 : mode < 0
  · simp only [h1, if_true, show ¬ (0 ≤ mode) by omega, false_and, if_false]
    exact no
  by_cases h2 : mode > 3
  · simp only [h1, h2, if_false, if_true, show ¬ (mode ≤ 3) by omega, and_false]
    exact no
  simp only [h1, h2, if_false, show 0 ≤ mode by omega, show mode ≤ 3 by omega, true_and, if_true]
  unfold Hand.twoF
  by_cases he : a.length = b.length
  · simp only [show ((a.length : Int) = (b.length : Int)) by omega, if_true]
    refine Ev.bind (within_ev a _ (by decide) (by decide) (by omega)) ?_
    by_cases i1 : ∀ j : Nat, j < a.length → Hand.inside 1099511627776 (rd a (j : Nat))
    · simp only [decide_eq_true i1, if_true]
      refine Ev.bind (within_ev b _ (by decide) (by decide) (by omega)) ?_
      by_cases i2 : ∀ j : Nat, j < b.length → Hand.inside 1099511627776 (rd b (j : Nat))
      · rw [if_pos ⟨he, (okTo_iff _ a b he).2 ⟨i1, i2⟩⟩]
        simp only [decide_eq_true i2, Bool.not_true]
        refine Ev.step (fun k => lacquerref09_Stereo.j0.eq_2 _ _ _ _ _) ?_
        simp only [Bool.false_eq_true, if_false]
        exact stereo_loop mode a b he h a.length 0 (by omega)
      · rw [if_neg (fun q => i2 ((okTo_iff _ a b he).1 q.2).2)]
        simp only [decide_eq_false i2, Bool.not_false]
        exact no
    · rw [if_neg (fun q => i1 ((okTo_iff _ a b he).1 q.2).1)]
      simp only [decide_eq_false i1, Bool.false_eq_true, if_false]
      exact no
  · simp only [show ¬ ((a.length : Int) = (b.length : Int)) by omega, if_false, he, false_and]
    exact no
theorem and_mask (x : Int) (i : Nat) (hi : i < 63) : Go.bits .and .i64 x (2 ^ i - 1 : Nat) = x % 2 ^ i := by
  have hlt : (2 : Nat) ^ i - 1 < 18446744073709551616 := by
    have : (2 : Nat) ^ i < 2 ^ 63 := Nat.pow_lt_pow_right (by omega) hi
    omega
  have h2 : (2 : Nat) ^ i < 2 ^ 63 := Nat.pow_lt_pow_right (by omega) hi
  show IntKind.i64.wrap ((BitVec.ofInt 64 x &&& BitVec.ofInt 64 ((2 ^ i - 1 : Nat) : Int)).toNat : Int) = _
  rw [BitVec.toNat_and, BitVec.ofInt_natCast, BitVec.toNat_ofNat, Nat.mod_eq_of_lt (by simpa using hlt), Nat.and_two_pow_sub_one_eq_mod, BitVec.toNat_ofInt]
  have hd : (2 : Int) ^ i ∣ ((2 ^ 64 : Nat) : Int) := by
    have : (2 : Nat) ^ i ∣ 2 ^ 64 := Nat.pow_dvd_pow 2 (by omega)
    have := Int.natCast_dvd_natCast.2 this
    simpa using this
  have h3 : (((x % ((2 ^ 64 : Nat) : Int)).toNat % 2 ^ i : Nat) : Int) = x % 2 ^ i := by
    rw [Int.natCast_emod, Int.toNat_of_nonneg (Int.emod_nonneg _ (by decide))]
    simpa using Int.emod_emod_of_dvd x hd
  rw [h3, IntKind.wrap_i64]
  have h4 : (0 : Int) < 2 ^ i := Int.pow_pos (by decide)
  have h5 : (2 : Int) ^ i < 9223372036854775808 := by
    have := Int.ofNat_lt.2 h2
    simpa using this
  have h6 := Int.emod_nonneg x (show (2 : Int) ^ i ≠ 0 by omega)
  have h7 := Int.emod_lt_of_pos x h4
  omega
theorem and1 (x : Int) : Go.bits .and .i64 x 1 = x % 2 := and_mask x 1 (by decide)
theorem un3 (x y : Int) (hx : Hand.inside 4398046511104 x) (hy : Hand.inside 4398046511104 y) :
    (wrap64 (wrap64 (wrap64 (x * 2) + y % 2) + y)) / 2 = wrap64 (wrap64 (x - y / 2) + y) ∧ (wrap64 (wrap64 (wrap64 (x * 2) + y % 2) - y)) / 2 = wrap64 (x - y / 2) := by
  unfold Hand.inside at hx hy
  rw [wrap_id (x * 2) (by omega) (by omega), wrap_id (x * 2 + y % 2) (by omega) (by omega), wrap_id (x * 2 + y % 2 + y) (by omega) (by omega), wrap_id (x * 2 + y % 2 - y) (by omega) (by omega), wrap_id (x - y / 2) (by omega) (by omega), wrap_id (x - y / 2 + y) (by omega) (by omega)]
  omega
theorem unstereo_loop (mode : Int) (a b : List Int) (he : a.length = b.length) (h : a.length < 17592186044416) (ha : ∀ j : Nat, j < a.length → Hand.inside 4398046511104 (rd a (j : Nat))) (hb : ∀ j : Nat, j < b.length → Hand.inside 4398046511104 (rd b (j : Nat))) : ∀ d i : Nat, i + d = a.length →
    Ev (fun k => lacquerref09_Unstereo.l0 k mode a b (Hand.twoL (Hand.unstereo2 mode) a b i) (Hand.twoR (Hand.unstereo2 mode) a b i) (i : Int)) (Hand.twoL (Hand.unstereo2 mode) a b a.length, Hand.twoR (Hand.unstereo2 mode) a b a.length, 0)
  | 0, i, e => by
    refine Ev.step (fun k => lacquerref09_Unstereo.l0.eq_2 _ _ _ _ _ _ _) ?_
    simp only [show ¬ ((i : Int) < (a.length : Int)) by omega, if_false]
    have : i = a.length := by omega
    subst this
    exact Ev.now _
  | d + 1, i, e => by
    refine Ev.step (fun k => lacquerref09_Unstereo.l0.eq_2 _ _ _ _ _ _ _) ?_
    simp only [show ((i : Int) < (a.length : Int)) by omega, show ((i : Int) < (b.length : Int)) by omega, show (0 : Int) ≤ (i : Int) by omega, if_true, wrap_id ((i : Int) + 1) (by omega) (by omega), Hand.twoL_length, Hand.twoR_length, show i < 17592186044416 by omega, and1]
    have ih := unstereo_loop mode a b he h ha hb d (i + 1) (by omega)
    rw [Hand.twoL_snoc, Hand.twoR_snoc] at ih
    have e3 : ((i + 1 : Nat) : Int) = (i : Int) + 1 := by omega
    rw [e3] at ih
    have hx := ha i (by omega)
    have hy := hb i (by omega)
    revert ih hx hy
    generalize rd a (i : Int) = x
    generalize rd b (i : Int) = y
    intro ih hx hy
    obtain ⟨u1, u2⟩ := un3 x y hx hy
    rw [u1, u2]
    unfold Hand.unstereo2 at ih ⊢
    by_cases m1 : mode = 1
    · subst m1; exact ih
    by_cases m2 : mode = 2
    · subst m2; exact ih
    by_cases m3 : mode = 3
    · subst m3; exact ih
    simp only [m1, m2, m3, if_false] at ih ⊢
    exact ih
theorem Unstereo_ev (mode : Int) (a b : List Int) (h : a.length < 17592186044416) (h2 : b.length < 17592186044416) : Ev (fun k => lacquerref09_Unstereo.f k mode a b) (Hand.unstereoF mode a b) := by
  have no : Ev (fun k => lacquerref09_Unstereo.j0 k mode a b true) ([], [], 1) := by
    refine Ev.step (fun k => lacquerref09_Unstereo.j0.eq_2 _ _ _ _ _) ?_
    exact Ev.now _
  unfold lacquerref09_Unstereo.f Hand.unstereoF
  by_cases h1 : mode < 0
  · simp only [h1, if_true, show ¬ (0 ≤ mode) by omega, false_and, if_false]
    exact no
  by_cases h2 : mode > 3
  · simp only [h1, h2, if_false, if_true, show ¬ (mode ≤ 3) by omega, and_false]
    exact no
  simp only [h1, h2, if_false, show 0 ≤ mode by omega, show mode ≤ 3 by omega, true_and, if_true]
  unfold Hand.twoF
  by_cases he : a.length = b.length
  · simp only [show ((a.length : Int) = (b.length : Int)) by omega, if_true]
    refine Ev.bind (within_ev a _ (by decide) (by decide) (by omega)) ?_
    by_cases i1 : ∀ j : Nat, j < a.length → Hand.inside 4398046511104 (rd a (j : Nat))
    · simp only [decide_eq_true i1, if_true]
      refine Ev.bind (within_ev b _ (by decide) (by decide) (by omega)) ?_
      by_cases i2 : ∀ j : Nat, j < b.length → Hand.inside 4398046511104 (rd b (j : Nat))
      · rw [if_pos ⟨he, (okTo_iff _ a b he).2 ⟨i1, i2⟩⟩]
        simp only [decide_eq_true i2, Bool.not_true]
        refine Ev.step (fun k => lacquerref09_Unstereo.j0.eq_2 _ _ _ _ _) ?_
        simp only [Bool.false_eq_true, if_false]
        exact unstereo_loop mode a b he h i1 i2 a.length 0 (by omega)
      · rw [if_neg (fun q => i2 ((okTo_iff _ a b he).1 q.2).2)]
        simp only [decide_eq_false i2, Bool.not_false]
        exact no
    · rw [if_neg (fun q => i1 ((okTo_iff _ a b he).1 q.2).1)]
      simp only [decide_eq_false i1, Bool.false_eq_true, if_false]
      exact no
  · simp only [show ¬ ((a.length : Int) = (b.length : Int)) by omega, if_false, he, false_and]
    exact no
theorem twoF_length (most : Int) (df : Int → Int → Int × Int) (a b : List Int) : (Hand.twoF most df a b).1.length ≤ a.length ∧ (Hand.twoF most df a b).2.1.length ≤ a.length := by
  unfold Hand.twoF
  split
  · simp only [Hand.twoL_length, Hand.twoR_length]; omega
  · simp
theorem stereoF_length (mode : Int) (a b : List Int) : (Hand.stereoF mode a b).1.length ≤ a.length ∧ (Hand.stereoF mode a b).2.1.length ≤ a.length := by
  unfold Hand.stereoF
  split
  · exact twoF_length _ _ a b
  · simp
theorem unstereoF_length (mode : Int) (a b : List Int) : (Hand.unstereoF mode a b).1.length ≤ a.length ∧ (Hand.unstereoF mode a b).2.1.length ≤ a.length := by
  unfold Hand.unstereoF
  split
  · exact twoF_length _ _ a b
  · simp
theorem PredictStereo_ev (a0 : Int) (l1 l2 : List Int) (h1 : l1.length * 8 ≤ 140737488351232) (h2 : l2.length * 8 ≤ 140737488351232) : Ev (fun k => lacquerlaw09_PredictStereo.f k a0 l1 l2) true := by
  unfold lacquerlaw09_PredictStereo.f
  have e1 : predict_Stereo.f a0 l1 l2 = some (Hand.stereoF a0 l1 l2) := if_pos (by omega)
  have e2 : predict_Unstereo.f a0 l1 l2 = some (Hand.unstereoF a0 l1 l2) := if_pos (by omega)
  simp only [e1, e2, Option.bind_some]
  have n1 := stereoF_length a0 l1 l2
  have n2 := unstereoF_length a0 l1 l2
  refine Ev.bind (Stereo_ev a0 l1 l2 (by omega) (by omega)) ?_
  refine Ev.bind (Unstereo_ev a0 l1 l2 (by omega) (by omega)) ?_
  refine Ev.bind (same_ev _ (by omega)) ?_
  simp only [if_true]
  refine Ev.bind (same_ev _ (by omega)) ?_
  simp only [if_true]
  refine Ev.bind (same_ev _ (by omega)) ?_
  simp only [if_true]
  refine Ev.bind (same_ev _ (by omega)) ?_
  simp only [if_true]
  exact Ev.bind awake_ev (Ev.now _)
end Go.Proofs.Ytbbedocehejfgaa.Math
