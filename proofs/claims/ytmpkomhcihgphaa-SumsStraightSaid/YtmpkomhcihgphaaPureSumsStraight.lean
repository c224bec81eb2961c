/- What is left of the law SumsStraight, over texts and numbers alone. -/
import Derived.Test.YtmpkomhcihgphaaMathJ
namespace Go.Proofs.Ytmpkomhcihgphaa.Pure
open Go.RowKit Go.Proofs.Ytmpkomhcihgphaa.Q Go.Proofs.YtmpkomhcihgphaaW.PrintWords Go.Proofs.YtmpkomhcihgphaaW.PrintLast

theorem SumsStraight : lacquerlaw03_SumsStraight.Pure := by
  intro s t hs ht
  exact Ev.rounds (Math.SumsStraight_ev s t hs ht)

end Go.Proofs.Ytmpkomhcihgphaa.Pure
