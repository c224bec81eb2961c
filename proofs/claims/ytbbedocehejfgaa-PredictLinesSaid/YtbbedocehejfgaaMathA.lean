/- The plain laws of layer 9: what the reference comes to. -/
import Derived.Test.YtbbedocehejfgaaQx2
namespace Go.Proofs.Ytbbedocehejfgaa.Math
open Go.RowKit Go.Proofs.Ytbbedocehejfgaa Go.Proofs.Ytbbedocehejfgaa.Q Go.Proofs.YtbbedocehejfgaaW.PrintWords Go.Proofs.YtbbedocehejfgaaW.PrintLast Go.Proofs.YtbbedocehejfgaaW.PrintMore
set_option linter.unusedVariables false
set_option linter.unusedSimpArgs false

theorem wrap_id (x : Int) (h : -9223372036854775808 ≤ x) (h2 : x ≤ 9223372036854775807) : wrap64 x = x := by unfold wrap64; omega
theorem u64_id (x : Int) (h : 0 ≤ x) (h2 : x ≤ 9223372036854775807) : IntKind.u64.wrap x = x := by
  simp [IntKind.wrap, IntKind.bits, IntKind.signed]; omega
theorem rd_take (l : List Int) (j m : Nat) (h : m < j) : rd (l.take j) (m : Nat) = rd l (m : Nat) := by
  simp [rd, List.getD_eq_getElem?_getD, List.getElem?_take, h]
theorem same_loop (a : List Int) (h : a.length < 9223372036854775807) : ∀ d i : Nat, i + d = a.length → Ev (fun k => lacquerref05_Ints.l0 k a a (i : Int)) true
  | 0, i, e => by
    refine Ev.step (fun k => lacquerref05_Ints.l0.eq_2 _ _ _ _) ?_
    simp only [show ¬ ((i : Int) < (a.length : Int)) by omega, if_false]
    exact Ev.now _
  | d + 1, i, e => by
    refine Ev.step (fun k => lacquerref05_Ints.l0.eq_2 _ _ _ _) ?_
    simp only [show ((i : Int) < (a.length : Int)) by omega, show (0 : Int) ≤ (i : Int) by omega, if_true, wrap_id ((i : Int) + 1) (by omega) (by omega)]
    exact same_loop a h d (i + 1) (by omega)
theorem same_ev (a : List Int) (h : a.length < 9223372036854775807) : Ev (fun k => lacquerlaw09_same.f k a a) true := by
  unfold lacquerlaw09_same.f
  refine Ev.bind (a := true) ?_ (Ev.now _)
  unfold lacquerref05_Ints.f
  simp only [if_true]
  exact same_loop a h a.length 0 (by omega)
theorem fore_loop (coefs l : List Int) (shift : Int) (j : Nat) (hj : j ≤ l.length) (hl : l.length < 9223372036854775807) (hc : coefs.length ≤ j) (hs : 0 ≤ shift) (hs2 : shift ≤ 31) :
    ∀ d i : Nat, i + d = coefs.length → Ev (fun k => lacquerref09_foretold.l0 k coefs shift l (j : Int) (Hand.foreSum coefs (l.take j) i) (i : Int)) (Hand.foretell coefs shift (l.take j))
  | 0, i, e => by
    refine Ev.step (fun k => lacquerref09_foretold.l0.eq_2 _ _ _ _ _ _ _) ?_
    simp only [show ¬ ((i : Int) < (coefs.length : Int)) by omega, if_false, u64_id shift hs (by omega), hs, if_true]
    have : i = coefs.length := by omega
    subst this
    exact Ev.now _
  | d + 1, i, e => by
    refine Ev.step (fun k => lacquerref09_foretold.l0.eq_2 _ _ _ _ _ _ _) ?_
    obtain ⟨m, hm⟩ : ∃ m : Nat, j = i + 1 + m := ⟨j - 1 - i, by omega⟩
    have e1 : wrap64 (wrap64 ((j : Int) - 1) - (i : Int)) = (m : Int) := by
      rw [wrap_id ((j : Int) - 1) (by omega) (by omega), wrap_id _ (by omega) (by omega)]; omega
    simp only [show ((i : Int) < (coefs.length : Int)) by omega, show (0 : Int) ≤ (i : Int) by omega, if_true, e1, show (0 : Int) ≤ (m : Int) by omega, show (m : Int) < (l.length : Int) by omega, wrap_id ((i : Int) + 1) (by omega) (by omega)]
    have e2 : wrap64 (Hand.foreSum coefs (l.take j) i + wrap64 (rd coefs (i : Int) * rd l (m : Int))) = Hand.foreSum coefs (l.take j) (i + 1) := by
      simp only [Hand.foreSum]
      rw [show (l.take j).length - 1 - i = m by rw [List.length_take]; omega, rd_take l j m (by omega)]
    rw [e2]
    exact fore_loop coefs l shift j hj hl hc hs hs2 d (i + 1) (by omega)
theorem fore_ev (coefs l : List Int) (shift : Int) (j : Nat) (hj : j ≤ l.length) (hl : l.length < 9223372036854775807) (hc : coefs.length ≤ j) (hs : 0 ≤ shift) (hs2 : shift ≤ 31) :
    Ev (fun k => lacquerref09_foretold.f k coefs shift l (j : Int)) (Hand.foretell coefs shift (l.take j)) := by
  unfold lacquerref09_foretold.f
  exact fore_loop coefs l shift j hj hl hc hs hs2 coefs.length 0 (by omega)
theorem left_loop (coefs l : List Int) (shift : Int) (hl : l.length < 17592186044416) (hs : 0 ≤ shift) (hs2 : shift ≤ 31) :
    ∀ d e : Nat, coefs.length + e + d = l.length → Ev (fun k => lacquerref09_left.l0 k coefs shift l (Hand.leftTo coefs shift l coefs.length e) ((coefs.length + e : Nat) : Int)) (Hand.leftTo coefs shift l coefs.length (l.length - coefs.length))
  | 0, i, e => by
    refine Ev.step (fun k => lacquerref09_left.l0.eq_2 _ _ _ _ _ _) ?_
    simp only [show ¬ (((coefs.length + i : Nat) : Int) < (l.length : Int)) by omega, if_false]
    have : l.length - coefs.length = i := by omega
    rw [this]
    exact Ev.now _
  | d + 1, i, e => by
    refine Ev.step (fun k => lacquerref09_left.l0.eq_2 _ _ _ _ _ _) ?_
    simp only [show (((coefs.length + i : Nat) : Int) < (l.length : Int)) by omega, if_true, show (0 : Int) ≤ ((coefs.length + i : Nat) : Int) by omega, Hand.leftTo_length, show i < 17592186044416 by omega]
    refine Ev.bind (fore_ev coefs l shift (coefs.length + i) (by omega) (by omega) (by omega) hs hs2) ?_
    rw [wrap_id (((coefs.length + i : Nat) : Int) + 1) (by omega) (by omega)]
    have := left_loop coefs l shift hl hs hs2 d (i + 1) (by omega)
    rw [Hand.leftTo_snoc] at this
    exact this
theorem left_ev (coefs l : List Int) (shift : Int) (hl : l.length < 17592186044416) (hc : coefs.length ≤ l.length) (hs : 0 ≤ shift) (hs2 : shift ≤ 31) :
    Ev (fun k => lacquerref09_left.f k coefs shift l) (Hand.leftTo coefs shift l coefs.length (l.length - coefs.length)) := by
  unfold lacquerref09_left.f
  exact left_loop coefs l shift hl hs hs2 (l.length - coefs.length) 0 (by omega)
theorem weights_eq (order : Int) : lacquerref09_weights.f order = some (Hand.fixedC order) := by
  unfold lacquerref09_weights.f Hand.fixedC
  repeat (split <;> try rfl)
theorem Fixed_ev (order : Int) (l : List Int) (hl : l.length < 17592186044416) : Ev (fun k => lacquerref09_Fixed.f k order l) (Hand.fixedF order l) := by
  unfold lacquerref09_Fixed.f Hand.fixedF
  by_cases h1 : order < 0
  · simp only [h1, if_true, show ¬ (0 ≤ order) by omega, false_and, if_false]
    refine Ev.step (fun k => lacquerref09_Fixed.j0.eq_2 _ _ _ _) ?_
    exact Ev.now _
  by_cases h2 : order > 4
  · simp only [h1, h2, if_false, if_true, show ¬ (order ≤ 4) by omega, false_and, and_false]
    refine Ev.step (fun k => lacquerref09_Fixed.j0.eq_2 _ _ _ _) ?_
    exact Ev.now _
  simp only [h1, h2, if_false, show 0 ≤ order by omega, show order ≤ 4 by omega, true_and]
  refine Ev.step (fun k => lacquerref09_Fixed.j0.eq_2 _ _ _ _) ?_
  by_cases h3 : (l.length : Int) < order
  · simp only [h3, decide_true, if_true, show ¬ (order ≤ (l.length : Int)) by omega, if_false]
    exact Ev.now _
  · simp only [h3, decide_false, if_false, Bool.false_eq_true, show (order ≤ (l.length : Int)) by omega, if_true, weights_eq, Option.bind_some]
    have hlen := Hand.fixedC_length (order := order) (by omega) (by omega)
    exact Ev.bind (left_ev _ l 0 hl (by omega) (by decide) (by decide)) (Ev.now _)
theorem Unfixed_ev (order : Int) (warm l : List Int) (hl : l.length * 8 ≤ 140737488351232) : Ev (fun k => lacquerref09_Unfixed.f k order warm l) (Hand.unfixedF order warm l) := by
  unfold lacquerref09_Unfixed.f Hand.unfixedF
  by_cases h1 : order < 0
  · simp only [h1, if_true, show ¬ (0 ≤ order) by omega, false_and, if_false]
    refine Ev.step (fun k => lacquerref09_Unfixed.j0.eq_2 _ _ _ _ _) ?_
    exact Ev.now _
  by_cases h2 : order > 4
  · simp only [h1, h2, if_false, if_true, show ¬ (order ≤ 4) by omega, false_and, and_false]
    refine Ev.step (fun k => lacquerref09_Unfixed.j0.eq_2 _ _ _ _ _) ?_
    exact Ev.now _
  simp only [h1, h2, if_false, show 0 ≤ order by omega, show order ≤ 4 by omega, true_and]
  refine Ev.step (fun k => lacquerref09_Unfixed.j0.eq_2 _ _ _ _ _) ?_
  by_cases h3 : (warm.length : Int) = order
  · have e : ((warm.length : Int) != order) = false := by simp [h3]
    have hlen := Hand.fixedC_length (order := order) (by omega) (by omega)
    simp only [e, if_false, Bool.false_eq_true, weights_eq, Option.bind_some]
    rw [if_pos h3]
    have e2 : lacquerref09_whole.f (Hand.fixedC order) 0 warm l = some (Hand.wholeTo (Hand.fixedC order) 0 warm l l.length) := by
      unfold lacquerref09_whole.f
      exact if_pos ⟨by omega, by decide, by decide, by omega⟩
    simp only [e2, Option.bind_some]
    exact Ev.now _
  · have e : ((warm.length : Int) != order) = true := by rw [bne_iff_ne]; exact h3
    simp only [e, if_true, h3, if_false]
    exact Ev.now _
end Go.Proofs.Ytbbedocehejfgaa.Math
