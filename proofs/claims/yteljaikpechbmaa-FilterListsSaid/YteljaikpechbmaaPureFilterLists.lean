/- FilterLists of layer 17: the plain statement. -/
import Derived.Test.YteljaikpechbmaaMathD
namespace Go.Proofs.Yteljaikpechbmaa.Pure
open Go.RowKit Go.Proofs.Yteljaikpechbmaa.R Go.Proofs.YteljaikpechbmaaW.PrintWords Go.Proofs.YteljaikpechbmaaW.PrintLast

theorem FilterLists : lacquerlaw17_FilterLists.Pure := by
  intro a0 l1 l2 _ _ h1 _ _ h2 _
  exact Ev.rounds (Math2.FilterLists_ev a0 l1 l2 h1 h2)

end Go.Proofs.Yteljaikpechbmaa.Pure
