/- The pure law of BytesLays: any number in any width, both ends first, is what its reference says. -/
import Derived.Test.YtfhkhbmpbmjlcaaMath
namespace Go.Proofs.Ytfhkhbmpbmjlcaa.Pure
open Go.RowKit Go.Proofs.Ytfhkhbmpbmjlcaa.Q Go.Proofs.Ytfhkhbmpbmjlcaa.Math Go.Proofs.YtfhkhbmpbmjlcaaW.PrintWords Go.Proofs.YtfhkhbmpbmjlcaaW.PrintLast

theorem BytesLays : lacquerlaw02_BytesLays.Pure := by
  intro n w hn hw
  have h63 := (bound_i64 hn).2
  refine Ev.rounds ?_
  unfold lacquerlaw02_BytesLays.f
  refine Ev.bind (Le_ev n w h63) ?_
  refine Ev.bind (LeR_ev n w h63) ?_
  refine Ev.bind (Be_ev n w h63) ?_
  refine Ev.bind (BeR_ev n w h63) ?_
  simp only [if_true]
  exact Ev.bind awake_ev (Ev.now _)

end Go.Proofs.Ytfhkhbmpbmjlcaa.Pure
