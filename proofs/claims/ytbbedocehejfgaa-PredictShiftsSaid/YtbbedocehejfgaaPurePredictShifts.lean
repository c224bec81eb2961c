import Derived.Test.YtbbedocehejfgaaMathF
namespace Go.Proofs.Ytbbedocehejfgaa.Pure
open Go.RowKit Go.Proofs.Ytbbedocehejfgaa.Q Go.Proofs.YtbbedocehejfgaaW.PrintWords Go.Proofs.YtbbedocehejfgaaW.PrintLast

theorem PredictShifts : lacquerlaw09_PredictShifts.Pure := by
  intro l b _ h hi _
  exact Ev.rounds (Math.PredictShifts_ev l b h (Math.in64_of l hi))

end Go.Proofs.Ytbbedocehejfgaa.Pure
