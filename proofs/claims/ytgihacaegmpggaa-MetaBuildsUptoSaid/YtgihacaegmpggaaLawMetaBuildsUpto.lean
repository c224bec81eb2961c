/- MetaBuilds: where the arguments hold together at most 1048576 values and letters, the law returns true and each argument reads as it did; over contracts proved by hand. -/
import Derived.Test.YtgihacaegmpggaaRows
import Derived.Test.YtgihacaegmpggaaBldWWords
import Derived.Test.YtgihacaegmpggaaBldWLast
import Derived.Test.YtgihacaegmpggaaBldWApart
import Derived.Test.YtgihacaegmpggaaBldWFoot
import Derived.Test.YtgihacaegmpggaaBldWKept
import Derived.Test.YtgihacaegmpggaaBldWShare
import Derived.Test.YtgihacaegmpggaaBldWN
import Derived.Test.YtgihacaegmpggaaBldWMore
import Derived.Test.YtgihacaegmpggaaBldWTab
import Derived.Test.YtgihacaegmpggaaBldWEqStruct
import Derived.Test.YtgihacaegmpggaaBldWRepsOne
import Derived.Test.YtgihacaegmpggaaBldWInv
import Derived.Test.YtgihacaegmpggaaBldWGuard
import Derived.Test.YtgihacaegmpggaaBld1
import Derived.Test.YtgihacaegmpggaaBld2
import Derived.Test.YtgihacaegmpggaaBld3
import Derived.Test.YtgihacaegmpggaaBld4
import Derived.Test.YtgihacaegmpggaaBld5
import Derived.Test.YtgihacaegmpggaaBld6
import Derived.Test.YtgihacaegmpggaaBld7
import Derived.WalkKit
import Derived.ProofKit
import Derived.OpenShut
import Derived.ShutString
import Derived.ChangeOld
import Derived.Below
import Derived.SizedLaws
import Derived.Deep.Slices
import Derived.Deep.Fields
import Derived.Deep.Strs
import Derived.Lib.SmallJoins
import Derived.ChangeArms
import Derived.Carry
import Derived.JoinedCond
namespace Go.Proofs.Ytgihacaegmpggaa.metaBuildsUpto
open Go.ChangeShapes Go.WideShapes Go.ChangeAt Go.RowKit Go.Deep Go.Proofs.YtgihacaegmpggaaW.PrintWords
open Go.ChangeMaps (open_string shut_string)
set_option linter.unusedVariables false
theorem own : ownKnob Try.prog.godebug = none := by kernel_rfl
theorem laidOut : laidOutB Try.prog = true := by kernel_rfl
theorem span_i64 {n : Int} (h : (Lit.int .i64 n).wf = true) : -9223372036854775808 ≤ n ∧ n ≤ 9223372036854775807 := by simpa [Lit.wf, IntKind.min, IntKind.max, IntKind.signed, IntKind.bits] using h
set_option maxRecDepth 100000 in
theorem lifted (os : Os) (started : os.Started) (H : Type) (enc : TypeId × Value → H) (F : Stop.Interp) :
    ReturnsInHanded {} Try.checked os 6 .any ((Rows.OpenSpec.upto Rows.metaBuildsSpec).pre6 enc Try.prog Try.f6 Rows.metaBuildsUptoRow.domain false) (((Rows.OpenSpec.upto Rows.metaBuildsSpec).at F).post enc Try.prog Try.f6 false true false false) := by
  refine returnsInHanded_of_cond (C := Try.checked) (s := Rows.OpenSpec.upto Rows.metaBuildsSpec) (k := Rows.uptoSmall) rfl own started (by kernel_rfl) Try.func6
    (OpenSpec.witness (enc := enc) (C := Try.checked) (s := Rows.OpenSpec.upto Rows.metaBuildsSpec) (k := Rows.uptoSmall) rfl false ⟨#[], #[.slice none 0 0], []⟩ 8 (by kernel_rfl) (by kernel_rfl) (by kernel_rfl)
      (x := ([.nil], [], [])) (by kernel_rfl) rfl (by kernel_rfl)) ?_
  intro W base args ds gs before hval0 hW _ hkk _
  have hup : Rows.uptoBulkAll (ds ++ gs) ≤ 1048576 := of_decide_eq_true hkk
  have hval : ∀ (j : Nat) t v, Try.f6.params[j]? = some t → args[j]? = some v → Value.okWide Try.prog W .any base t v := hval0
  have hW' := hW
  obtain ⟨p, q, hA0, hV, rfl, hfz, hnd⟩ := hW
  have hA : DataW.TrodAll enc Try.prog W 0 (fun _ => true) true Try.f6.params.toList args.toList ds p := hA0
  rw [Try.params6] at hA hval
  obtain ⟨v0, vs0, d0, ds0, p0, q0, hargs, rfl, rfl, h0, r0⟩ := trodAll_cons hA
  obtain ⟨rfl, rfl, rfl⟩ := trodAll_nil r0
  obtain rfl : args = #[v0] := by cases args; simp_all
  obtain ⟨rfl, rfl⟩ := trodVars_none hV
  rw [List.append_nil] at hup
  simp only [Rows.uptoBulkAll] at hup
  have k0 := h0
  have lt0 : ∀ x ∈ p0, x.block < W.heap.size := by obtain ⟨m, hm⟩ := k0; exact DataW.trod_lt m _ _ _ hm
  obtain ⟨A0, len0, cap0, rfl⟩ := okWide_slice Try.underlying40 (hval 0 40 v0 rfl rfl)
  obtain ⟨fu0, hf0⟩ := h0
  obtain ⟨l0, ⟨A0', c0', hcs0, hc0, hC0⟩, hR0, hG0, hZ0⟩ := (@Op.op_slice (R.S36) ⟨(⟨0, ⟨#[]⟩⟩ : R.S36)⟩ _ _ _ _ _ _ _ 24 Try.underlying40 (by kernel_rfl) (by kernel_rfl) (Op.op_iso (fun x : R.S36 => (x.f0, x.f1)) (fun q => ⟨q.1, q.2⟩) (fun _ => rfl) (Op.op_struct Try.underlying36 (by kernel_rfl) rfl (Op.opF_cons (Op.op_int (-9223372036854775808) (9223372036854775807) Try.underlying3 (fun _ h => span_i64 h)) (Op.opF_one (Op.op_string Try.underlying9)))))) H enc W 0 (fun _ => true) true fu0 _ (d0, p0) hf0
  simp only [Value.cells, List.cons.injEq, Value.slice.injEq, and_true] at hcs0
  obtain ⟨rfl, rfl, rfl⟩ := hcs0
  have Z0 := Nat.le_trans hZ0 (show Rows.uptoBulk d0 ≤ 1048576 by omega)
  clear hA0 hval0
  refine (Plain.Builds_any l0 A0 cap0 W hC0 hc0 (Plain.bulk_le Z0 (fun b => by show b.f1.size + 3 ≤ 1 + (b.f1.size + 1) + 1; omega)).1 (Plain.bulk_le Z0 (fun b => by show b.f1.size + 3 ≤ 1 + (b.f1.size + 1) + 1; omega)).2).mono fun e W' ⟨he, bel⟩ => ?_
  subst he
  exact ⟨_, rfl, _, _, _, [], _, [], hW', trodAll_mk1 (shut_bool Try.underlying4 _), (trodAll_cons_mk (Below.trod laidOut (by kernel_rfl) (of_decide_eq_true (by kernel_rfl)) k0 bel lt0) trodAll_mk0), rfl, bel.frame _, fun h => by cases h⟩
theorem over : Rows.metaBuildsUptoRow.holds Try.pinned (Rows.OpenSpec.upto Rows.metaBuildsSpec) :=
  OpenClaim.holds_of_cond 6 Try.f6 rfl rfl rfl rfl rfl rfl rfl ⟨rfl, rfl, rfl, rfl, rfl⟩ rfl rfl rfl rfl rfl (by kernel_rfl) Try.func6 (by kernel_rfl)
    (of_decide_eq_true (by kernel_rfl)) (by unfold Func.isWrapper; first | (rw [if_pos (by decide +kernel)]; kernel_rfl) | (rw [if_neg (by decide +kernel)]; exact ⟨rfl, rfl⟩))
    (fun os started H enc _ F => lifted os started H enc F)
theorem proved : Rows.MetaBuildsUptoSaid := over
#print axioms proved
end Go.Proofs.Ytgihacaegmpggaa.metaBuildsUpto
namespace Go.Proofs.Ytgihacaegmpggaa
/-- The row, under a short name, for the claim. -/
theorem metaBuildsUpto_holds : Rows.MetaBuildsUptoSaid := metaBuildsUpto.proved
end Go.Proofs.Ytgihacaegmpggaa
