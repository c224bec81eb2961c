import Derived.Test.YtbbedocehejfgaaMathG
namespace Go.Proofs.Ytbbedocehejfgaa.Pure
open Go.RowKit Go.Proofs.Ytbbedocehejfgaa.Q Go.Proofs.YtbbedocehejfgaaW.PrintWords Go.Proofs.YtbbedocehejfgaaW.PrintLast

theorem PredictLines : lacquerlaw09_PredictLines.Pure := by
  intro a b n _ _ _
  exact Ev.rounds (Math.PredictLines_ev a b n)

end Go.Proofs.Ytbbedocehejfgaa.Pure
