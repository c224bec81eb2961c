import Derived.Test.YtbbedocehejfgaaMathD
namespace Go.Proofs.Ytbbedocehejfgaa.Pure
open Go.RowKit Go.Proofs.Ytbbedocehejfgaa.Q Go.Proofs.YtbbedocehejfgaaW.PrintWords Go.Proofs.YtbbedocehejfgaaW.PrintLast

theorem PredictModes : lacquerlaw09_PredictModes.Pure := by
  intro a0 l1 l2 _ _ h1 _ _ h2 _
  exact Ev.rounds (Math.PredictModes_ev a0 l1 l2 h1 h2)

end Go.Proofs.Ytbbedocehejfgaa.Pure
