/- The plain law of PredictLines. -/
import Derived.Test.YtbbedocehejfgaaMathD
import Derived.Test.YtbbedocehejfgaaQx3
namespace Go.Proofs.Ytbbedocehejfgaa.Math
open Go.RowKit Go.Proofs.Ytbbedocehejfgaa Go.Proofs.Ytbbedocehejfgaa.Q Go.Proofs.YtbbedocehejfgaaW.PrintWords Go.Proofs.YtbbedocehejfgaaW.PrintLast Go.Proofs.YtbbedocehejfgaaW.PrintMore
set_option linter.unusedVariables false
set_option linter.unusedSimpArgs false

theorem w0 : wrap64 0 = 0 := by simp [wrap64]
theorem ww1 (a b : Int) : wrap64 (wrap64 a + b) = wrap64 (a + b) := by unfold wrap64; omega
theorem ww2 (a b : Int) : wrap64 (a + wrap64 b) = wrap64 (a + b) := by unfold wrap64; omega
theorem ww3 (a b : Int) : wrap64 (a - wrap64 b) = wrap64 (a - b) := by unfold wrap64; omega
theorem ww4 (a b : Int) : wrap64 (wrap64 a - b) = wrap64 (a - b) := by unfold wrap64; omega
theorem ww5 (a : Int) : wrap64 (wrap64 a) = wrap64 a := by unfold wrap64; omega
theorem ww_2 (b : Int) : wrap64 (2 * wrap64 b) = wrap64 (2 * b) := by unfold wrap64; omega
theorem ww_3 (b : Int) : wrap64 (3 * wrap64 b) = wrap64 (3 * b) := by unfold wrap64; omega
theorem ww_4 (b : Int) : wrap64 (4 * wrap64 b) = wrap64 (4 * b) := by unfold wrap64; omega
theorem ww_6 (b : Int) : wrap64 (-6 * wrap64 b) = wrap64 (-6 * b) := by unfold wrap64; omega
theorem ww_m3 (b : Int) : wrap64 (-3 * wrap64 b) = wrap64 (-3 * b) := by unfold wrap64; omega
theorem ww_m1 (b : Int) : wrap64 (-1 * wrap64 b) = wrap64 (-1 * b) := by unfold wrap64; omega
theorem ww_1 (b : Int) : wrap64 (1 * wrap64 b) = wrap64 (1 * b) := by unfold wrap64; omega
/-- A straight line. -/
def lineL (a b : Int) (i : Nat) : List Int := (List.range i).map fun (j : Nat) => wrap64 (a + wrap64 ((j : Int) * b))
theorem lineL_length (a b : Int) (i : Nat) : (lineL a b i).length = i := by simp [lineL]
theorem lineL_snoc (a b : Int) (i : Nat) : lineL a b (i + 1) = lineL a b i ++ [wrap64 (a + wrap64 ((i : Int) * b))] := by simp [lineL, List.range_succ]
theorem line_at (a b : Int) (m j : Nat) (h : j < m) : rd (lineL a b m) (j : Nat) = wrap64 (a + wrap64 ((j : Int) * b)) := rd_map (fun j => wrap64 (a + wrap64 ((j : Int) * b))) m j h
theorem rd_left (C : List Int) (s : Int) (l : List Int) (i0 d i : Nat) (h : i < d) : rd (Hand.leftTo C s l i0 d) (i : Nat) = wrap64 (rd l ((i0 + i : Nat) : Int) - Hand.foretell C s (l.take (i0 + i))) := by
  have h1 : ((i0 + i : Nat) : Int).toNat = i0 + i := by omega
  unfold Hand.leftTo rd
  rw [h1]
  simp [List.getD_eq_getElem?_getD, h]
theorem shr0 (x : Int) : shr .i64 x 0 = x := by simp [shr]
theorem line_take (a b : Int) (m j q : Nat) (h : j ≤ m) (hq : q < j) : rd ((lineL a b m).take j) ((((lineL a b m).take j).length - 1 - q : Nat) : Int) = wrap64 (a + wrap64 (((j : Int) - 1 - q) * b)) := by
  have e : ((lineL a b m).take j).length = j := by rw [List.length_take, lineL_length]; omega
  rw [e, rd_take _ _ _ (by omega), line_at _ _ _ _ (by omega)]
  have : ((j - 1 - q : Nat) : Int) = (j : Int) - 1 - q := by omega
  rw [this]
theorem line_zero (o : Nat) (ho : o = 2 ∨ o = 3 ∨ o = 4) (a b : Int) (m j : Nat) (h1 : o ≤ j) (h2 : j < m) : wrap64 (rd (lineL a b m) ((j : Nat) : Int) - Hand.foretell (Hand.fixedC (o : Int)) 0 ((lineL a b m).take j)) = 0 := by
  rw [line_at a b m j h2]
  unfold Hand.foretell
  rw [shr0]
  have k0 := line_take a b m j 0 (by omega) (by omega)
  have k1 := line_take a b m j 1 (by omega) (by omega)
  have e0 : ((j : Int) - 1 - ((0 : Nat) : Int)) * b = (j : Int) * b - b := by rw [Int.sub_mul, Int.sub_mul]; simp
  have e1 : ((j : Int) - 1 - ((1 : Nat) : Int)) * b = (j : Int) * b - 2 * b := by rw [Int.sub_mul, Int.sub_mul]; simp; omega
  rw [e0] at k0
  rw [e1] at k1
  rcases ho with rfl | rfl | rfl
  · generalize (j : Int) * b = t at *
    show wrap64 (_ - Hand.foreSum [2, -1] _ 2) = 0
    simp only [Hand.foreSum, k0, k1, show rd [2, -1] ((0 : Nat) : Int) = 2 from rfl, show rd [2, -1] ((1 : Nat) : Int) = -1 from rfl]
    simp only [ww1, ww2, ww3, ww4, ww5, ww_2, ww_m1]
    rw [show a + t - (0 + 2 * (a + (t - b)) + -1 * (a + (t - 2 * b))) = 0 by omega]
    exact w0
  · have k2 := line_take a b m j 2 (by omega) (by omega)
    have e2 : ((j : Int) - 1 - ((2 : Nat) : Int)) * b = (j : Int) * b - 3 * b := by rw [Int.sub_mul, Int.sub_mul]; simp; omega
    rw [e2] at k2
    generalize (j : Int) * b = t at *
    show wrap64 (_ - Hand.foreSum [3, -3, 1] _ 3) = 0
    simp only [Hand.foreSum, k0, k1, k2, show rd [3, -3, 1] ((0 : Nat) : Int) = 3 from rfl, show rd [3, -3, 1] ((1 : Nat) : Int) = -3 from rfl, show rd [3, -3, 1] ((2 : Nat) : Int) = 1 from rfl]
    simp only [ww1, ww2, ww3, ww4, ww5, ww_3, ww_m3, ww_1]
    rw [show a + t - (0 + 3 * (a + (t - b)) + -3 * (a + (t - 2 * b)) + 1 * (a + (t - 3 * b))) = 0 by omega]
    exact w0
  · have k2 := line_take a b m j 2 (by omega) (by omega)
    have k3 := line_take a b m j 3 (by omega) (by omega)
    have e2 : ((j : Int) - 1 - ((2 : Nat) : Int)) * b = (j : Int) * b - 3 * b := by rw [Int.sub_mul, Int.sub_mul]; simp; omega
    have e3 : ((j : Int) - 1 - ((3 : Nat) : Int)) * b = (j : Int) * b - 4 * b := by rw [Int.sub_mul, Int.sub_mul]; simp; omega
    rw [e2] at k2
    rw [e3] at k3
    generalize (j : Int) * b = t at *
    show wrap64 (_ - Hand.foreSum [4, -6, 4, -1] _ 4) = 0
    simp only [Hand.foreSum, k0, k1, k2, k3, show rd [4, -6, 4, -1] ((0 : Nat) : Int) = 4 from rfl, show rd [4, -6, 4, -1] ((1 : Nat) : Int) = -6 from rfl, show rd [4, -6, 4, -1] ((2 : Nat) : Int) = 4 from rfl, show rd [4, -6, 4, -1] ((3 : Nat) : Int) = -1 from rfl]
    simp only [ww1, ww2, ww3, ww4, ww5, ww_4, ww_6, ww_m1]
    rw [show a + t - (0 + 4 * (a + (t - b)) + -6 * (a + (t - 2 * b)) + 4 * (a + (t - 3 * b)) + -1 * (a + (t - 4 * b))) = 0 by omega]
    exact w0
theorem left_zero (o : Nat) (ho : o = 2 ∨ o = 3 ∨ o = 4) (a b : Int) (m i : Nat) (h : i < m - o) : rd (Hand.leftTo (Hand.fixedC (o : Int)) 0 (lineL a b m) o (m - o)) (i : Nat) = 0 := by
  rw [rd_left _ _ _ _ _ _ h]
  exact line_zero o ho a b m (o + i) (by omega) (by omega)
theorem fixed_line (o : Nat) (ho : o = 2 ∨ o = 3 ∨ o = 4) (a b : Int) (m : Nat) (hm : 4 ≤ m) : Hand.fixedF (o : Int) (lineL a b m) = (Hand.leftTo (Hand.fixedC (o : Int)) 0 (lineL a b m) o (m - o), 0) := by
  have hl : (Hand.fixedC (o : Int)).length = o := by rcases ho with rfl | rfl | rfl <;> rfl
  unfold Hand.fixedF
  rw [if_pos ⟨by omega, by omega, by rw [lineL_length]; omega⟩, hl, lineL_length]
theorem lpc_line (a b : Int) (m : Nat) (hm : 4 ≤ m) : Hand.lpcF [3, -3, 1] 0 (lineL a b m) = Hand.fixedF 3 (lineL a b m) := by
  have e := fixed_line 3 (by omega) a b m hm
  rw [show ((3 : Nat) : Int) = 3 from rfl] at e
  rw [e]
  unfold Hand.lpcF
  rw [if_pos ⟨by decide, by rw [lineL_length]; exact Nat.le_trans (by decide) hm⟩, lineL_length]
  rfl
theorem lines_l1_end (a b : Int) (m : Nat) (hm : 4 ≤ m) (hm2 : m ≤ 40) : Ev (fun k => lacquerlaw09_PredictLines.l1 k (lineL a b m) 5) true := by
  refine Ev.step (fun k => lacquerlaw09_PredictLines.l1.eq_2 _ _ _) ?_
  have hl := lineL_length a b m
  have e1 : predict_Fixed.f 3 (lineL a b m) = some (Hand.fixedF 3 (lineL a b m)) := if_pos (by omega)
  have e2 : predict_Lpc.f [3, -3, 1] 0 (lineL a b m) = some (Hand.fixedF 3 (lineL a b m)) := by
    unfold predict_Lpc.f
    rw [if_pos (by omega), lpc_line a b m hm]
  have e3 : (Hand.fixedF 3 (lineL a b m)).2 = 0 := by
    have e := fixed_line 3 (by omega) a b m hm
    rw [show ((3 : Nat) : Int) = 3 from rfl] at e
    rw [e]
  have n1 := fixedF_length 3 (lineL a b m)
  simp only [show ¬ ((5 : Int) ≤ 4) by decide, if_false, e1, e2, Option.bind_some, e3, if_true]
  refine Ev.bind (same_ev _ (by omega)) ?_
  simp only [if_true]
  exact Ev.bind awake_ev (Ev.now _)
theorem lines_l2 (o : Nat) (ho : o = 2 ∨ o = 3 ∨ o = 4) (a b : Int) (m : Nat) (hm : 4 ≤ m) (hm2 : m ≤ 40) (next : Ev (fun k => lacquerlaw09_PredictLines.l1 k (lineL a b m) ((o + 1 : Nat) : Int)) true) : ∀ d i : Nat, i + d = m - o →
    Ev (fun k => lacquerlaw09_PredictLines.l2 k (lineL a b m) (o : Int) (Hand.leftTo (Hand.fixedC (o : Int)) 0 (lineL a b m) o (m - o)) (i : Int)) true
  | 0, i, e => by
    refine Ev.step (fun k => lacquerlaw09_PredictLines.l2.eq_2 _ _ _ _ _) ?_
    simp only [Hand.leftTo_length, show ¬ ((i : Int) < ((m - o : Nat) : Int)) by omega, if_false, wrap_id ((o : Int) + 1) (by omega) (by omega)]
    exact next
  | d + 1, i, e => by
    refine Ev.step (fun k => lacquerlaw09_PredictLines.l2.eq_2 _ _ _ _ _) ?_
    simp only [Hand.leftTo_length, show ((i : Int) < ((m - o : Nat) : Int)) by omega, show (0 : Int) ≤ (i : Int) by omega, if_true, wrap_id ((i : Int) + 1) (by omega) (by omega), left_zero o ho a b m i (by omega)]
    exact lines_l2 o ho a b m hm hm2 next d (i + 1) (by omega)
theorem lines_l1 (o : Nat) (ho : o = 2 ∨ o = 3 ∨ o = 4) (a b : Int) (m : Nat) (hm : 4 ≤ m) (hm2 : m ≤ 40) (next : Ev (fun k => lacquerlaw09_PredictLines.l1 k (lineL a b m) ((o + 1 : Nat) : Int)) true) :
    Ev (fun k => lacquerlaw09_PredictLines.l1 k (lineL a b m) (o : Int)) true := by
  refine Ev.step (fun k => lacquerlaw09_PredictLines.l1.eq_2 _ _ _) ?_
  have hl := lineL_length a b m
  have e1 : predict_Fixed.f (o : Int) (lineL a b m) = some (Hand.fixedF (o : Int) (lineL a b m)) := if_pos (by omega)
  have e4 : (((m - o : Nat) : Int) != wrap64 ((m : Int) - (o : Int))) = false := by
    rw [wrap_id _ (by omega) (by omega)]
    simp; omega
  simp only [show ((o : Int) ≤ 4) by omega, if_true, e1, fixed_line o ho a b m hm, Option.bind_some, Hand.leftTo_length, hl, e4]
  refine Ev.step (fun k => lacquerlaw09_PredictLines.j2.eq_2 _ _ _ _ _) ?_
  simp only [Bool.false_eq_true, if_false]
  exact lines_l2 o ho a b m hm hm2 next (m - o) 0 (by omega)
theorem lines_l0 (a b n : Int) (m : Nat) (hmn : mx 4 (mn n 40) = (m : Int)) (hm : 4 ≤ m) (hm2 : m ≤ 40) : ∀ d i : Nat, i + d = m → Ev (fun k => lacquerlaw09_PredictLines.l0 k a b n (lineL a b i) (i : Int)) true
  | 0, i, e => by
    have : i = m := by omega
    subst this
    refine Ev.step (fun k => lacquerlaw09_PredictLines.l0.eq_2 _ _ _ _ _ _) ?_
    simp only [hmn, Int.lt_irrefl, if_false]
    have h4 := lines_l1 4 (by omega) a b i hm hm2 (lines_l1_end a b i hm hm2)
    have h3 := lines_l1 3 (by omega) a b i hm hm2 h4
    exact lines_l1 2 (by omega) a b i hm hm2 h3
  | d + 1, i, e => by
    refine Ev.step (fun k => lacquerlaw09_PredictLines.l0.eq_2 _ _ _ _ _ _) ?_
    simp only [hmn, show ((i : Int) < (m : Int)) by omega, if_true, lineL_length, show i < 17592186044416 by omega, wrap_id ((i : Int) + 1) (by omega) (by omega)]
    have ih := lines_l0 a b n m hmn hm hm2 d (i + 1) (by omega)
    rw [lineL_snoc] at ih
    exact ih
theorem PredictLines_ev (a b n : Int) : Ev (fun k => lacquerlaw09_PredictLines.f k a b n) true := by
  unfold lacquerlaw09_PredictLines.f
  obtain ⟨m, h1, h2, h3⟩ : ∃ m : Nat, mx 4 (mn n 40) = (m : Int) ∧ 4 ≤ m ∧ m ≤ 40 := by
    refine ⟨(mx 4 (mn n 40)).toNat, ?_, ?_, ?_⟩ <;> (unfold mx mn; split <;> split <;> omega)
  exact lines_l0 a b n m h1 h2 h3 m 0 (by omega)
end Go.Proofs.Ytbbedocehejfgaa.Math
