/- RiceDecodes: for every input the law returns true and each argument reads as it did; over contracts proved by hand. -/
import Derived.Test.YtfhekkoibmlmpaaRows
import Derived.Test.YtfhekkoibmlmpaaDcdWWords
import Derived.Test.YtfhekkoibmlmpaaDcdWLast
import Derived.Test.YtfhekkoibmlmpaaDcdWApart
import Derived.Test.YtfhekkoibmlmpaaDcdWFoot
import Derived.Test.YtfhekkoibmlmpaaDcdWKept
import Derived.Test.YtfhekkoibmlmpaaDcdWShare
import Derived.Test.YtfhekkoibmlmpaaDcdWN
import Derived.Test.YtfhekkoibmlmpaaDcdWMore
import Derived.Test.YtfhekkoibmlmpaaDcdWTab
import Derived.Test.YtfhekkoibmlmpaaDcdWRepsOne
import Derived.Test.YtfhekkoibmlmpaaDcdWInv
import Derived.Test.YtfhekkoibmlmpaaDcdWGuard
import Derived.Test.YtfhekkoibmlmpaaDcd1
import Derived.Test.YtfhekkoibmlmpaaDcd2
import Derived.Test.YtfhekkoibmlmpaaDcd3
import Derived.Test.YtfhekkoibmlmpaaDcd4
import Derived.Test.YtfhekkoibmlmpaaDcd5
import Derived.Test.YtfhekkoibmlmpaaDcd6
import Derived.Test.YtfhekkoibmlmpaaDcd7
import Derived.Test.YtfhekkoibmlmpaaDcd8
import Derived.WalkKit
import Derived.ProofKit
import Derived.OpenShut
import Derived.ShutString
import Derived.ChangeOld
import Derived.Below
import Derived.SizedLaws
import Derived.Deep.Slices
import Derived.Deep.Fields
import Derived.Deep.Strs
import Derived.Lib.SmallJoins
import Derived.ChangeArms
import Derived.Carry
namespace Go.Proofs.Ytfhekkoibmlmpaa.riceDecodes
open Go.ChangeShapes Go.WideShapes Go.ChangeAt Go.RowKit Go.Deep Go.Proofs.YtfhekkoibmlmpaaW.PrintWords
open Go.ChangeMaps (open_string shut_string)
set_option linter.unusedVariables false
theorem own : ownKnob Try.prog.godebug = none := by kernel_rfl
theorem laidOut : laidOutB Try.prog = true := by kernel_rfl
theorem span_i64 {n : Int} (h : (Lit.int .i64 n).wf = true) : -9223372036854775808 ≤ n ∧ n ≤ 9223372036854775807 := by simpa [Lit.wf, IntKind.min, IntKind.max, IntKind.signed, IntKind.bits] using h
set_option maxRecDepth 100000 in
theorem lifted (os : Os) (started : os.Started) (H : Type) (enc : TypeId × Value → H) :
    ReturnsInHanded {} Try.checked os 4 .any (Rows.riceDecodesSpec.pre6 enc Try.prog Try.f4 Rows.riceDecodesRow.domain false) (Rows.riceDecodesSpec.post enc Try.prog Try.f4 false true false false) := by
  refine returnsInHanded_of_change_sized (C := Try.checked) own started (by kernel_rfl) Try.func4
    (ChangeSpec.witness6 (enc := enc) (C := Try.checked) false ⟨#[], #[.string ByteArray.empty, .int .i64 0, .int .i64 0], []⟩ 8 (by kernel_rfl) (by kernel_rfl) (by kernel_rfl) (by kernel_rfl)) ?_
  intro W base args ds gs before hval0 hW hcnd hsz0 _
  have hsz : (DataW.weightsEach Try.prog (Try.f4.params.toList ++ Rows.riceDecodesSpec.plain.varTypes Try.prog) (ds ++ gs)).all (· ≤ reachBytes) = true := hsz0
  have hval : ∀ (j : Nat) t v, Try.f4.params[j]? = some t → args[j]? = some v → Value.okWide Try.prog W .any base t v := hval0
  have hW' := hW
  obtain ⟨p, q, hA0, hV, rfl, hfz, hnd⟩ := hW
  have hA : DataW.TrodAll enc Try.prog W 0 (fun _ => true) true Try.f4.params.toList args.toList ds p := hA0
  rw [Try.params4] at hA hval hsz
  obtain ⟨v0, vs0, d0, ds0, p0, q0, hargs, rfl, rfl, h0, r0⟩ := trodAll_cons hA
  obtain ⟨v1, vs1, d1, ds1, p1, q1, rfl, rfl, rfl, h1, r1⟩ := trodAll_cons r0
  obtain ⟨v2, vs2, d2, ds2, p2, q2, rfl, rfl, rfl, h2, r2⟩ := trodAll_cons r1
  obtain ⟨rfl, rfl, rfl⟩ := trodAll_nil r2
  obtain rfl : args = #[v0, v1, v2] := by cases args; simp_all
  obtain ⟨rfl, rfl⟩ := trodVars_none hV
  obtain ⟨s0, rfl, rfl, rfl, y0⟩ := open_string Try.underlying9 (hval 0 9 v0 rfl rfl) h0
  have z0 : s0.size ≤ 140737488351232 := by
    have z := sized_string hsz (j := 0) (t := 9) rfl rfl
    rw [Array.length_toList] at z
    exact z
  obtain ⟨a1, rfl, rfl, rfl, w1⟩ := open_int Try.underlying3 (hval 1 3 v1 rfl rfl) h1
  have h1 := span_i64 w1
  obtain ⟨a2, rfl, rfl, rfl, w2⟩ := open_int Try.underlying3 (hval 2 3 v2 rfl rfl) h2
  have h2 := span_i64 w2
  clear hA0 hval0 hsz0 hsz
  refine (Hand.DecodesLaw_any s0 (by omega) a1 a2 W).mono fun e W' ⟨he, bel⟩ => ?_
  subst he
  exact ⟨_, rfl, _, _, _, [], _, [], hW', trodAll_mk1 (shut_bool Try.underlying4 _), (trodAll_cons_mk (shut_string Try.underlying9 y0) (trodAll_cons_mk (shut_int Try.underlying3 w1) (trodAll_cons_mk (shut_int Try.underlying3 w2) trodAll_mk0))), rfl, bel.frame _, fun h => by cases h⟩
theorem over : Rows.riceDecodesRow.holds Try.pinned (OpenSpec.ofChange Rows.riceDecodesSpec) :=
  OpenClaim.holds_of_wide 4 Try.f4 rfl rfl rfl rfl rfl rfl rfl ⟨rfl, rfl, rfl, rfl, rfl⟩ rfl rfl rfl rfl rfl (by kernel_rfl) Try.func4 (by kernel_rfl)
    (of_decide_eq_true (by kernel_rfl)) (by unfold Func.isWrapper; first | (rw [if_pos (by decide +kernel)]; kernel_rfl) | (rw [if_neg (by decide +kernel)]; exact ⟨rfl, rfl⟩))
    (fun os started H enc _ => lifted os started H enc)
theorem proved : Rows.RiceDecodesSaid := over
#print axioms proved
end Go.Proofs.Ytfhekkoibmlmpaa.riceDecodes
namespace Go.Proofs.Ytfhekkoibmlmpaa
/-- The row, under a short name, for the claim. -/
theorem riceDecodes_holds : Rows.RiceDecodesSaid := riceDecodes.proved
end Go.Proofs.Ytfhekkoibmlmpaa
