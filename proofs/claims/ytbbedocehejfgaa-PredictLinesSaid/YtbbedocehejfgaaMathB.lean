/- The pure law of PredictFixed. -/
import Derived.Test.YtbbedocehejfgaaMathA
namespace Go.Proofs.Ytbbedocehejfgaa.Math
open Go.RowKit Go.Proofs.Ytbbedocehejfgaa Go.Proofs.Ytbbedocehejfgaa.Q Go.Proofs.YtbbedocehejfgaaW.PrintWords Go.Proofs.YtbbedocehejfgaaW.PrintLast Go.Proofs.YtbbedocehejfgaaW.PrintMore
set_option linter.unusedVariables false
set_option linter.unusedSimpArgs false

set_option maxRecDepth 100000 in
theorem awake_ev : Ev (fun k => lacquerlaw09_awake.f k) true := Ev.of lacquerlaw09_awake.mono (k := 12) (by decide +kernel)
theorem fixedF_length (order : Int) (l : List Int) : (Hand.fixedF order l).1.length ≤ l.length := by
  unfold Hand.fixedF
  split
  · simp only [Hand.leftTo_length]; omega
  · simp
theorem unfixedF_length (order : Int) (w l : List Int) : (Hand.unfixedF order w l).1.length ≤ 4 + l.length := by
  unfold Hand.unfixedF
  split
  · rw [Hand.wholeTo_length]; omega
  · simp
theorem PredictFixed_ev (a0 : Int) (l1 l2 : List Int) (h1 : l1.length * 8 ≤ 140737488351232) (h2 : l2.length * 8 ≤ 140737488351232) : Ev (fun k => lacquerlaw09_PredictFixed.f k a0 l1 l2) true := by
  unfold lacquerlaw09_PredictFixed.f
  have e1 : predict_Fixed.f a0 l2 = some (Hand.fixedF a0 l2) := if_pos (by omega)
  have e2 : predict_Unfixed.f a0 l1 l2 = some (Hand.unfixedF a0 l1 l2) := if_pos (by omega)
  simp only [e1, e2, Option.bind_some]
  have n1 := fixedF_length a0 l2
  have n2 := unfixedF_length a0 l1 l2
  refine Ev.bind (Fixed_ev a0 l2 (by omega)) ?_
  refine Ev.bind (Unfixed_ev a0 l1 l2 h2) ?_
  refine Ev.bind (same_ev _ (by omega)) ?_
  simp only [if_true]
  refine Ev.bind (same_ev _ (by omega)) ?_
  simp only [if_true]
  exact Ev.bind awake_ev (Ev.now _)
end Go.Proofs.Ytbbedocehejfgaa.Math
