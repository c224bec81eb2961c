/- The pure law of BytesCodes: any number as a coded number and as a rate's bytes is what its reference says. -/
import Derived.Test.YtfhkhbmpbmjlcaaMath5
namespace Go.Proofs.Ytfhkhbmpbmjlcaa.Pure
open Go.RowKit Go.Proofs.Ytfhkhbmpbmjlcaa.Q Go.Proofs.Ytfhkhbmpbmjlcaa.Math Go.Proofs.YtfhkhbmpbmjlcaaW.PrintWords Go.Proofs.YtfhkhbmpbmjlcaaW.PrintLast Go.Proofs.YtfhkhbmpbmjlcaaW.PrintMore
set_option linter.unusedVariables false
set_option linter.unusedSimpArgs false

theorem BytesCodes : lacquerlaw02_BytesCodes.Pure := by
  intro n hn
  have h63 := bound_i64 hn
  refine Ev.rounds ?_
  unfold lacquerlaw02_BytesCodes.f
  refine Ev.bind (Coded_ev n) ?_
  refine Ev.bind (CodedR_ev n) ?_
  refine Ev.bind (Rate_ev n h63) ?_
  refine Ev.bind (RateR_ev n) ?_
  simp only [if_true]
  exact Ev.bind awake_ev (Ev.now _)

end Go.Proofs.Ytfhkhbmpbmjlcaa.Pure
