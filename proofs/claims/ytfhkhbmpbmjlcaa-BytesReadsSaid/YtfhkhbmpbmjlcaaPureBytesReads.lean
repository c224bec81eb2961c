/- The pure law of BytesReads: any text read as a number, both ends first, as a coded number and as a rate is what its reference says. -/
import Derived.Test.YtfhkhbmpbmjlcaaMath5
namespace Go.Proofs.Ytfhkhbmpbmjlcaa.Pure
open Go.RowKit Go.Proofs.Ytfhkhbmpbmjlcaa.Q Go.Proofs.Ytfhkhbmpbmjlcaa.Math Go.Proofs.YtfhkhbmpbmjlcaaW.PrintWords Go.Proofs.YtfhkhbmpbmjlcaaW.PrintLast Go.Proofs.YtfhkhbmpbmjlcaaW.PrintMore
set_option linter.unusedVariables false
set_option linter.unusedSimpArgs false

theorem BytesReads : lacquerlaw02_BytesReads.Pure := by
  intro s hs
  refine Ev.rounds ?_
  unfold lacquerlaw02_BytesReads.f
  refine Ev.bind (Uncoded_ev s (by omega)) ?_
  refine Ev.bind (UncodedR_ev s (by omega)) ?_
  refine Ev.bind (FromRate_ev s) ?_
  refine Ev.bind (FromRateR_ev s) ?_
  refine Ev.bind (FromLe_ev s (by omega)) ?_
  refine Ev.bind (FromLeR_ev s (by omega)) ?_
  simp only [if_true]
  refine Ev.bind (FromBe_ev s) ?_
  refine Ev.bind (FromBeR_ev s) ?_
  simp only [if_true]
  exact Ev.bind awake_ev (Ev.now _)

end Go.Proofs.Ytfhkhbmpbmjlcaa.Pure
