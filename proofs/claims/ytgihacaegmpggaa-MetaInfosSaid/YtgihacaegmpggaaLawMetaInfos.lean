/- MetaInfos: for every input the law returns true and each argument reads as it did; over contracts proved by hand. -/
import Derived.Test.YtgihacaegmpggaaRows
import Derived.Test.YtgihacaegmpggaaInf1
import Derived.Test.YtgihacaegmpggaaInf2
import Derived.Test.YtgihacaegmpggaaInf3
import Derived.Test.YtgihacaegmpggaaInf4
import Derived.Test.YtgihacaegmpggaaInf5
import Derived.Test.YtgihacaegmpggaaInf6
import Derived.WalkKit
import Derived.ProofKit
import Derived.OpenShut
import Derived.ShutString
import Derived.ChangeOld
import Derived.Below
import Derived.SizedLaws
import Derived.Deep.Slices
import Derived.Deep.Fields
import Derived.Deep.Strs
import Derived.Lib.SmallJoins
import Derived.ChangeArms
import Derived.Carry
import Derived.Test.YtgihacaegmpggaaWSized
namespace Go.Proofs.Ytgihacaegmpggaa.metaInfos
open Go.ChangeShapes Go.WideShapes Go.ChangeAt Go.RowKit Go.Deep Go.Proofs.YtgihacaegmpggaaW.PrintWords
open Go.ChangeMaps (open_string shut_string)
set_option linter.unusedVariables false
theorem own : ownKnob Try.prog.godebug = none := by kernel_rfl
theorem laidOut : laidOutB Try.prog = true := by kernel_rfl
theorem span_i64 {n : Int} (h : (Lit.int .i64 n).wf = true) : -9223372036854775808 ≤ n ∧ n ≤ 9223372036854775807 := by simpa [Lit.wf, IntKind.min, IntKind.max, IntKind.signed, IntKind.bits] using h
set_option maxRecDepth 100000 in
theorem lifted (os : Os) (started : os.Started) (H : Type) (enc : TypeId × Value → H) :
    ReturnsInHanded {} Try.checked os 3 .any (Rows.metaInfosSpec.pre6 enc Try.prog Try.f3 Rows.metaInfosRow.domain false) (Rows.metaInfosSpec.post enc Try.prog Try.f3 false true false false) := by
  refine returnsInHanded_of_change_sized (C := Try.checked) own started (by kernel_rfl) Try.func3
    (ChangeSpec.witness6 (enc := enc) (C := Try.checked) false ⟨#[], #[.string ByteArray.empty, .agg #[.int .i64 0, .int .i64 0, .int .i64 0, .int .i64 0, .int .i64 0, .int .i64 0, .int .i64 0, .int .i64 0, .string ByteArray.empty]], []⟩ 8 (by kernel_rfl) (by kernel_rfl) (by kernel_rfl) (by kernel_rfl)) ?_
  intro W base args ds gs before hval0 hW hcnd hsz0 _
  have hsz : (DataW.weightsEach Try.prog (Try.f3.params.toList ++ Rows.metaInfosSpec.plain.varTypes Try.prog) (ds ++ gs)).all (· ≤ reachBytes) = true := hsz0
  have hval : ∀ (j : Nat) t v, Try.f3.params[j]? = some t → args[j]? = some v → Value.okWide Try.prog W .any base t v := hval0
  have hW' := hW
  obtain ⟨p, q, hA0, hV, rfl, hfz, hnd⟩ := hW
  have hA : DataW.TrodAll enc Try.prog W 0 (fun _ => true) true Try.f3.params.toList args.toList ds p := hA0
  rw [Try.params3] at hA hval hsz
  obtain ⟨v0, vs0, d0, ds0, p0, q0, hargs, rfl, rfl, h0, r0⟩ := trodAll_cons hA
  obtain ⟨v1, vs1, d1, ds1, p1, q1, rfl, rfl, rfl, h1, r1⟩ := trodAll_cons r0
  obtain ⟨rfl, rfl, rfl⟩ := trodAll_nil r1
  obtain rfl : args = #[v0, v1] := by cases args; simp_all
  obtain ⟨rfl, rfl⟩ := trodVars_none hV
  obtain ⟨s0, rfl, rfl, rfl, y0⟩ := open_string Try.underlying9 (hval 0 9 v0 rfl rfl) h0
  have z0 : s0.size ≤ 140737488351232 := by
    have z := sized_string hsz (j := 0) (t := 9) rfl rfl
    rw [Array.length_toList] at z
    exact z
  have k1 := h1
  have lt1 : ∀ x ∈ p1, x.block < W.heap.size := by obtain ⟨m, hm⟩ := k1; exact DataW.trod_lt m _ _ _ hm
  obtain ⟨cs1, rfl, sz1⟩ := okWide_struct Try.underlying23 (hval 1 23 v1 rfl rfl)
  obtain ⟨fu1, hf1⟩ := h1
  obtain ⟨⟨y1_0, y1_1, y1_2, y1_3, y1_4, y1_5, y1_6, y1_7, y1_8⟩, ⟨_, _, e1, rfl, ⟨_, _, rfl, rfl, ⟨_, _, rfl, rfl, ⟨_, _, rfl, rfl, ⟨_, _, rfl, rfl, ⟨_, _, rfl, rfl, ⟨_, _, rfl, rfl, ⟨_, _, rfl, rfl, rfl⟩⟩⟩⟩⟩⟩⟩⟩, hR1, hG1, hZ1⟩ := (Op.op_struct Try.underlying23 (by kernel_rfl) rfl (Op.opF_cons (Op.op_int (-9223372036854775808) (9223372036854775807) Try.underlying3 (fun _ h => span_i64 h)) (Op.opF_cons (Op.op_int (-9223372036854775808) (9223372036854775807) Try.underlying3 (fun _ h => span_i64 h)) (Op.opF_cons (Op.op_int (-9223372036854775808) (9223372036854775807) Try.underlying3 (fun _ h => span_i64 h)) (Op.opF_cons (Op.op_int (-9223372036854775808) (9223372036854775807) Try.underlying3 (fun _ h => span_i64 h)) (Op.opF_cons (Op.op_int (-9223372036854775808) (9223372036854775807) Try.underlying3 (fun _ h => span_i64 h)) (Op.opF_cons (Op.op_int (-9223372036854775808) (9223372036854775807) Try.underlying3 (fun _ h => span_i64 h)) (Op.opF_cons (Op.op_int (-9223372036854775808) (9223372036854775807) Try.underlying3 (fun _ h => span_i64 h)) (Op.opF_cons (Op.op_int (-9223372036854775808) (9223372036854775807) Try.underlying3 (fun _ h => span_i64 h)) (Op.opF_one (Op.op_string Try.underlying9))))))))))) H enc W 0 (fun _ => true) true fu1 _ (d1, p1) hf1
  obtain rfl : cs1 = #[.int .i64 y1_0, .int .i64 y1_1, .int .i64 y1_2, .int .i64 y1_3, .int .i64 y1_4, .int .i64 y1_5, .int .i64 y1_6, .int .i64 y1_7, .string y1_8] := by
    obtain ⟨cl⟩ := cs1
    simp [Value.cells] at e1
    rw [e1]
  have G1 := hG1 (Op.weights_of hsz (j := 1) rfl rfl)
  clear hA0 hval0 hsz0 hsz
  refine (Plain.Infos_any s0 y1_0 y1_1 y1_2 y1_3 y1_4 y1_5 y1_6 y1_7 y1_8 (by obtain ⟨r0, r1, r2, r3, r4, r5, r6, r7, r8⟩ := hR1; obtain ⟨_, _, _, _, _, _, _, _, g8⟩ := G1; exact ⟨⟨r0, r1, r2, r3, r4, r7⟩, Nat.le_trans (Nat.add_le_add_right g8 18) (by decide)⟩) W).mono fun e W' ⟨he, bel⟩ => ?_
  subst he
  exact ⟨_, rfl, _, _, _, [], _, [], hW', trodAll_mk1 (shut_bool Try.underlying4 _), (trodAll_cons_mk (shut_string Try.underlying9 y0) (trodAll_cons_mk (Below.trod laidOut (by kernel_rfl) (of_decide_eq_true (by kernel_rfl)) k1 bel lt1) trodAll_mk0)), rfl, bel.frame _, fun h => by cases h⟩
theorem over : Rows.metaInfosRow.holds Try.pinned (OpenSpec.ofChange Rows.metaInfosSpec) :=
  OpenClaim.holds_of_wide 3 Try.f3 rfl rfl rfl rfl rfl rfl rfl ⟨rfl, rfl, rfl, rfl, rfl⟩ rfl rfl rfl rfl rfl (by kernel_rfl) Try.func3 (by kernel_rfl)
    (of_decide_eq_true (by kernel_rfl)) (by unfold Func.isWrapper; first | (rw [if_pos (by decide +kernel)]; kernel_rfl) | (rw [if_neg (by decide +kernel)]; exact ⟨rfl, rfl⟩))
    (fun os started H enc _ => lifted os started H enc)
theorem proved : Rows.MetaInfosSaid := over
#print axioms proved
end Go.Proofs.Ytgihacaegmpggaa.metaInfos
namespace Go.Proofs.Ytgihacaegmpggaa
/-- The row, under a short name, for the claim. -/
theorem metaInfos_holds : Rows.MetaInfosSaid := metaInfos.proved
end Go.Proofs.Ytgihacaegmpggaa
