/- Texts of this claim's proof, laid behind each other by a program of ours, without what the proof does not reach: Printed by a program of ours (pp.sh), partly over contracts proved by hand; The plain law of layer 13: awake; which blocks may be -/
import Derived.Test.YtgihacaegmpggaaInf1
import Derived.Test.YtgihacaegmpggaaInf2
import Derived.Test.YtgihacaegmpggaaInf3
import Derived.Test.YtgihacaegmpggaaInf4
import Derived.Test.YtgihacaegmpggaaInf5
/- Printed by a program of ours (pp.sh), partly over contracts proved by hand. -/
namespace Go.Proofs.Ytgihacaegmpggaa.R
open Go.RowKit Go.Proofs.YtgihacaegmpggaaW.PrintWords Go.Proofs.YtgihacaegmpggaaW.PrintLast Go.Proofs.YtgihacaegmpggaaW.PrintMore
attribute [local go_sem] max2_int min2_int max_two min_two max_three min_three max_four min_four   -- for this text's walks alone
set_option linter.unusedVariables false
set_option linter.unusedSimpArgs false

/-! ### lacquerref13_Check: function 14 -/

/-! ### lacquerlaw13_MetaChecks: function 4 -/

end Go.Proofs.Ytgihacaegmpggaa.R

/- The plain law of layer 13: awake; which blocks may be. -/
namespace Go.Proofs.Ytgihacaegmpggaa.Plain
open Go.RowKit Go.Proofs.Ytgihacaegmpggaa Go.Proofs.Ytgihacaegmpggaa.R Go.Proofs.Ytgihacaegmpggaa.Be Go.Proofs.YtgihacaegmpggaaW.PrintWords Go.Proofs.YtgihacaegmpggaaW.PrintLast Go.Proofs.YtgihacaegmpggaaW.PrintMore
set_option linter.unusedVariables false
set_option linter.unusedSimpArgs false

theorem awake_ok : lacquerlaw13_awake.f 60 = some true := by decide +kernel
theorem awake_ev : Ev (fun k => lacquerlaw13_awake.f k) true := Ev.of lacquerlaw13_awake.mono awake_ok
theorem infos_ok (s : ByteArray) (a0 a1 a2 a3 a4 a5 a6 a7 : Int) (a8 : ByteArray) (h : ((-9223372036854775808 ≤ a0 ∧ a0 ≤ 9223372036854775807) ∧ (-9223372036854775808 ≤ a1 ∧ a1 ≤ 9223372036854775807) ∧ (-9223372036854775808 ≤ a2 ∧ a2 ≤ 9223372036854775807) ∧ (-9223372036854775808 ≤ a3 ∧ a3 ≤ 9223372036854775807) ∧ (-9223372036854775808 ≤ a4 ∧ a4 ≤ 9223372036854775807) ∧ (-9223372036854775808 ≤ a7 ∧ a7 ≤ 9223372036854775807)) ∧ a8.size + 18 ≤ 9223372036854775807) :
    Ev (fun k => lacquerlaw13_MetaInfos.f k s a0 a1 a2 a3 a4 a5 a6 a7 a8) true := by
  unfold lacquerlaw13_MetaInfos.f
  have e1 : meta_Info.f s = some (Hand.flatI (Hand.infoF s)) := rfl
  have e2 : lacquerref13_Info.f s = some (Hand.flatI (Hand.infoF s)) := rfl
  have e3 : meta_LayInfo.f a0 a1 a2 a3 a4 a5 a6 a7 a8 = some (Hand.layF (a0, a1, a2, a3, a4, a5, a6, a7, a8)) := if_pos h
  have e4 : lacquerref13_LayInfo.f a0 a1 a2 a3 a4 a5 a6 a7 a8 = some (Hand.layF (a0, a1, a2, a3, a4, a5, a6, a7, a8)) := if_pos h
  simp only [e1, e2, e3, e4, Option.bind_some, beq_self_eq_true, Bool.and_self, if_true]
  exact Ev.bind awake_ev (Ev.now _)
theorem Infos_any (s : ByteArray) (a0 a1 a2 a3 a4 a5 a6 a7 : Int) (a8 : ByteArray) (h : ((-9223372036854775808 ≤ a0 ∧ a0 ≤ 9223372036854775807) ∧ (-9223372036854775808 ≤ a1 ∧ a1 ≤ 9223372036854775807) ∧ (-9223372036854775808 ≤ a2 ∧ a2 ≤ 9223372036854775807) ∧ (-9223372036854775808 ≤ a3 ∧ a3 ≤ 9223372036854775807) ∧ (-9223372036854775808 ≤ a4 ∧ a4 ≤ 9223372036854775807) ∧ (-9223372036854775808 ≤ a7 ∧ a7 ≤ 9223372036854775807)) ∧ a8.size + 18 ≤ 9223372036854775807) (w : World) :
    Calls Try.prog 3 #[.string s, .agg #[.int .i64 a0, .int .i64 a1, .int .i64 a2, .int .i64 a3, .int .i64 a4, .int .i64 a5, .int .i64 a6, .int .i64 a7, .string a8]] w fun e w' => e = .returned (.bool true) ∧ Below w.heap.size w w' := by
  obtain ⟨k, hk⟩ := (infos_ok s a0 a1 a2 a3 a4 a5 a6 a7 a8 h).rounds
  exact lacquerlaw13_MetaInfos.calls k s a0 a1 a2 a3 a4 a5 a6 a7 a8 true w hk
end Go.Proofs.Ytgihacaegmpggaa.Plain
