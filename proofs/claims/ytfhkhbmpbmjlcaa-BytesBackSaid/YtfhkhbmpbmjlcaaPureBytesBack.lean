/- The pure law of BytesBack: a number that was laid is read as it was, whatever stands behind a coded one. -/
import Derived.Test.YtfhkhbmpbmjlcaaMath6
namespace Go.Proofs.Ytfhkhbmpbmjlcaa.Pure
open Go.RowKit Go.Proofs.Ytfhkhbmpbmjlcaa.Q Go.Proofs.Ytfhkhbmpbmjlcaa.Math Go.Proofs.YtfhkhbmpbmjlcaaW.PrintWords Go.Proofs.YtfhkhbmpbmjlcaaW.PrintLast Go.Proofs.YtfhkhbmpbmjlcaaW.PrintMore
set_option linter.unusedVariables false
set_option linter.unusedSimpArgs false

theorem back_j2 (n : Int) (h63 : -9223372036854775808 ≤ n ∧ n < 9223372036854775808) : Ev (fun k => lacquerlaw02_BytesBack.j2 k n) true := by
  refine Ev.step (fun k => lacquerlaw02_BytesBack.j2.eq_2 _ _) ?_
  refine Ev.bind (Rate_ev n h63) ?_
  by_cases h : 1 ≤ n ∧ n ≤ 655350
  · have hf : rateF n = (strOfNums (rateL n), 0) := by unfold rateF; rw [if_pos h]
    rw [hf]
    simp only [if_true]
    refine Ev.bind (FromRate_ev _) ?_
    rw [rate_back h.1 h.2]
    simp only [if_true]
    exact Ev.bind awake_ev (Ev.now _)
  · have hf : rateF n = (⟨#[]⟩, 11) := by unfold rateF; rw [if_neg h]
    rw [hf]
    simp only [show ¬ ((11 : Int) = 0) by decide, if_false]
    exact Ev.bind awake_ev (Ev.now _)
theorem back_j1 (n : Int) (h63 : -9223372036854775808 ≤ n ∧ n < 9223372036854775808) (behind : ByteArray) (hb : behind.size ≤ 140737488351232) : Ev (fun k => lacquerlaw02_BytesBack.j1 k n behind false) true := by
  refine Ev.step (fun k => lacquerlaw02_BytesBack.j1.eq_2 _ _ _ _) ?_
  simp only [Bool.false_eq_true, if_false]
  refine Ev.bind (Coded_ev n) ?_
  by_cases h : 0 ≤ n ∧ n < 68719476736
  · have hf : codF n = (strOfNums (codR n), 0) := by unfold codF; rw [if_pos h]
    have hz : (strOfNums (codR n)).size ≤ 7 := by
      have := codR_length n
      rw [strOfNums_size]
      have h7 : wideN n ≤ 7 := by unfold wideN; repeat' split
                                  all_goals omega
      omega
    have hq : (strOfNums (codR n)).size + behind.size ≤ 9223372036854775807 := by omega
    rw [hf]
    simp only [if_true, if_pos hq]
    refine Ev.bind (Uncoded_ev _ (by rw [ByteArray.size_append]; omega)) ?_
    rw [un_back n h.1 h.2]
    simp only [if_true]
    exact back_j2 n h63
  · have hf : codF n = (⟨#[]⟩, 11) := by unfold codF; rw [if_neg h]
    rw [hf]
    simp only [show ¬ ((11 : Int) = 0) by decide, if_false]
    exact back_j2 n h63
theorem back_j0 (n w : Int) (h63 : -9223372036854775808 ≤ n ∧ n < 9223372036854775808) (behind : ByteArray) (hb : behind.size ≤ 140737488351232) : Ev (fun k => lacquerlaw02_BytesBack.j0 k n w behind false) true := by
  refine Ev.step (fun k => lacquerlaw02_BytesBack.j0.eq_2 _ _ _ _ _) ?_
  simp only [Bool.false_eq_true, if_false]
  refine Ev.bind (Be_ev n w h63.2) ?_
  by_cases h : 1 ≤ w ∧ w ≤ 8 ∧ 0 ≤ n ∧ n < 2 ^ (8 * w.toNat)
  · have hf : beR n w = (strOfNums (leL w.toNat n).reverse, 0) := by unfold beR; rw [if_pos h]
    rw [hf]
    simp only [if_true]
    refine Ev.bind (FromBe_ev _) ?_
    rw [fb_back h63.2 h]
    have hz : (((strOfNums (leL w.toNat n).reverse).size : Int) != w) = false := by rw [strOfNums_size, List.length_reverse, leL_length]; simp; omega
    simp only [if_true, hz]
    exact back_j1 n h63 behind hb
  · have hf : beR n w = (⟨#[]⟩, 11) := by unfold beR; rw [if_neg h]
    rw [hf]
    simp only [show ¬ ((11 : Int) = 0) by decide, if_false]
    exact back_j1 n h63 behind hb

theorem BytesBack : lacquerlaw02_BytesBack.Pure := by
  intro n w behind hn hw hb
  have h63 := bound_i64 hn
  refine Ev.rounds ?_
  unfold lacquerlaw02_BytesBack.f
  refine Ev.bind (Le_ev n w h63.2) ?_
  by_cases h : 1 ≤ w ∧ w ≤ 8 ∧ 0 ≤ n ∧ n < 2 ^ (8 * w.toNat)
  · have hf : leR n w = (strOfNums (leL w.toNat n), 0) := by unfold leR; rw [if_pos h]
    rw [hf]
    simp only [if_true]
    refine Ev.bind (FromLe_ev _ (by rw [strOfNums_size, leL_length]; omega)) ?_
    rw [rev_strOfNums, fb_back h63.2 h]
    have hz : (((strOfNums (leL w.toNat n)).size : Int) != w) = false := by rw [strOfNums_size, leL_length]; simp; omega
    simp only [if_true, hz]
    exact back_j0 n w h63 behind hb
  · have hf : leR n w = (⟨#[]⟩, 11) := by unfold leR; rw [if_neg h]
    rw [hf]
    simp only [show ¬ ((11 : Int) = 0) by decide, if_false]
    exact back_j0 n w h63 behind hb

end Go.Proofs.Ytfhkhbmpbmjlcaa.Pure
