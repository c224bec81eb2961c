/- What is left of the law SumsNought, over texts and numbers alone. -/
import Derived.Test.YtmpkomhcihgphaaMathI
namespace Go.Proofs.Ytmpkomhcihgphaa.Pure
open Go.RowKit Go.Proofs.Ytmpkomhcihgphaa.Q Go.Proofs.YtmpkomhcihgphaaW.PrintWords Go.Proofs.YtmpkomhcihgphaaW.PrintLast

theorem SumsNought : lacquerlaw03_SumsNought.Pure := by
  intro s hs
  exact Math.SumsNought_f s hs

end Go.Proofs.Ytmpkomhcihgphaa.Pure
