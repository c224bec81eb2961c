/- What is left of the law SumsAll, over texts and numbers alone. -/
import Derived.Test.YtmpkomhcihgphaaMathH
namespace Go.Proofs.Ytmpkomhcihgphaa.Pure
open Go.RowKit Go.Proofs.Ytmpkomhcihgphaa.Q Go.Proofs.YtmpkomhcihgphaaW.PrintWords Go.Proofs.YtmpkomhcihgphaaW.PrintLast

theorem SumsAll : lacquerlaw03_SumsAll.Pure := by
  intro s hs
  exact Ev.rounds (Math.SumsAll_ev s hs)

end Go.Proofs.Ytmpkomhcihgphaa.Pure
