/- FilterBack of layer 17: the plain statement. -/
import Derived.Test.YteljaikpechbmaaMathB
namespace Go.Proofs.Yteljaikpechbmaa.Pure
open Go.RowKit Go.Proofs.Yteljaikpechbmaa.P Go.Proofs.YteljaikpechbmaaW.PrintWords Go.Proofs.YteljaikpechbmaaW.PrintLast

theorem FilterBack : lacquerlaw17_FilterBack.Pure := by
  intro a0 l1 _ _ h1 _
  exact Ev.rounds (Math.FilterBack_ev a0 l1 h1)

end Go.Proofs.Yteljaikpechbmaa.Pure
