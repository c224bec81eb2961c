/- ModelEncodes: for every input the law returns true and each argument reads as it did; over contracts proved by hand. -/
import Derived.Test.YtoologbaoifheaaRows
import Derived.Test.YtoologbaoifheaaEnc5
import Derived.WalkKit
import Derived.ProofKit
import Derived.OpenShut
import Derived.ShutString
import Derived.ChangeOld
import Derived.Below
import Derived.SizedLaws
import Derived.Deep.Slices
import Derived.Deep.Fields
import Derived.Deep.Strs
import Derived.Lib.SmallJoins
import Derived.ChangeArms
import Derived.Carry
import Derived.Test.YtoologbaoifheaaWSized
namespace Go.Proofs.Ytoologbaoifheaa.modelEncodes
open Go.ChangeShapes Go.WideShapes Go.ChangeAt Go.RowKit Go.Deep
open Go.ChangeMaps (open_string shut_string)
set_option linter.unusedVariables false
theorem own : ownKnob Try.prog.godebug = none := by kernel_rfl
theorem laidOut : laidOutB Try.prog = true := by kernel_rfl
theorem span_i64 {n : Int} (h : (Lit.int .i64 n).wf = true) : -9223372036854775808 ≤ n ∧ n ≤ 9223372036854775807 := by simpa [Lit.wf, IntKind.min, IntKind.max, IntKind.signed, IntKind.bits] using h
set_option maxRecDepth 100000 in
theorem lifted (os : Os) (started : os.Started) (H : Type) (enc : TypeId × Value → H) :
    ReturnsInHanded {} Try.checked os 4 .any (Rows.modelEncodesSpec.pre6 enc Try.prog Try.f4 Rows.modelEncodesRow.domain false) (Rows.modelEncodesSpec.post enc Try.prog Try.f4 false true false false) := by
  refine returnsInHanded_of_change_sized (C := Try.checked) own started (by kernel_rfl) Try.func4
    (ChangeSpec.witness6 (enc := enc) (C := Try.checked) false ⟨#[], #[.slice none 0 0], []⟩ 8 (by kernel_rfl) (by kernel_rfl) (by kernel_rfl) (by kernel_rfl)) ?_
  intro W base args ds gs before hval0 hW hcnd hsz0 _
  have hsz : (DataW.weightsEach Try.prog (Try.f4.params.toList ++ Rows.modelEncodesSpec.plain.varTypes Try.prog) (ds ++ gs)).all (· ≤ reachBytes) = true := hsz0
  have hval : ∀ (j : Nat) t v, Try.f4.params[j]? = some t → args[j]? = some v → Value.okWide Try.prog W .any base t v := hval0
  have hW' := hW
  obtain ⟨p, q, hA0, hV, rfl, hfz, hnd⟩ := hW
  have hA : DataW.TrodAll enc Try.prog W 0 (fun _ => true) true Try.f4.params.toList args.toList ds p := hA0
  rw [Try.params4] at hA hval hsz
  obtain ⟨v0, vs0, d0, ds0, p0, q0, hargs, rfl, rfl, h0, r0⟩ := trodAll_cons hA
  obtain ⟨rfl, rfl, rfl⟩ := trodAll_nil r0
  obtain rfl : args = #[v0] := by cases args; simp_all
  obtain ⟨rfl, rfl⟩ := trodVars_none hV
  obtain ⟨A0, len0, cap0, rfl⟩ := okWide_slice Try.underlying25 (hval 0 25 v0 rfl rfl)
  have k0 := h0
  have lt0 : ∀ x ∈ p0, x.block < W.heap.size := by obtain ⟨m, hm⟩ := k0; exact DataW.trod_lt m _ _ _ hm
  have y0 : len0 * 8 ≤ 140737488351232 := Go.Proofs.YtoologbaoifheaaW.PrintWords.sized_ints hsz (j := 0) (t := 25) rfl rfl Try.underlying25 Try.underlying3 (by kernel_rfl) (by kernel_rfl) h0
  obtain ⟨V0, F0, lc0⟩ : ∃ V0 : Nat → Int, (∀ j, j < len0 → ∃ ad, A0 = some ad ∧ W.cell? (ad.add j) = some (.int .i64 (V0 j)) ∧ -9223372036854775808 ≤ V0 j ∧ V0 j ≤ 9223372036854775807) ∧ (len0 ≤ cap0 ∧ cap0 ≤ maxLen) := by
    obtain ⟨fuel, hf⟩ := h0
    rcases open_slice1 Try.underlying25 (by kernel_rfl) hf with ⟨hcs, hx⟩ | ⟨x, l, c, m, n, V, D, Pl, hcs, _, hl, hm, hmm, hx, he⟩
    · simp [Value.cells] at hcs
      obtain ⟨rfl, rfl, rfl⟩ := hcs
      exact ⟨fun _ => 0, fun j hj => absurd hj (by omega), Nat.le_refl _, by unfold maxLen; omega⟩
    · simp [Value.cells] at hcs
      obtain ⟨rfl, rfl, rfl⟩ := hcs
      have hlm : len0 ≤ m := by rw [hmm]; split <;> omega
      have each : ∀ j, j < len0 → ∃ y : Int, V j = .int .i64 y ∧ (Lit.int .i64 y).wf = true := fun j hj => by
        obtain ⟨y, h1, _, h3⟩ := DataW.trod_int Try.underlying3 (he j (by omega)).2
        exact ⟨y, by simpa using h1, h3⟩
      obtain ⟨Y, hY⟩ := choose_lt each
      exact ⟨Y, fun j hj => ⟨x, rfl, by rw [(he j (by omega)).1, (hY j hj).1], (span_i64 (hY j hj).2).1, (span_i64 (hY j hj).2).2⟩, hl, hm⟩
  clear hA0 hval0 hsz0 hsz
  refine (Hand.Encodes_came A0 len0 cap0 V0 W lc0.1 y0 F0).mono fun e W' ⟨he, bel⟩ => ?_
  subst he
  exact ⟨_, rfl, _, _, _, [], _, [], hW', trodAll_mk1 (shut_bool Try.underlying4 _), (trodAll_cons_mk (Below.trod laidOut (by kernel_rfl) (of_decide_eq_true (by kernel_rfl)) k0 bel lt0) trodAll_mk0), rfl, bel.frame _, fun h => by cases h⟩
theorem over : Rows.modelEncodesRow.holds Try.pinned (OpenSpec.ofChange Rows.modelEncodesSpec) :=
  OpenClaim.holds_of_wide 4 Try.f4 rfl rfl rfl rfl rfl rfl rfl ⟨rfl, rfl, rfl, rfl, rfl⟩ rfl rfl rfl rfl rfl (by kernel_rfl) Try.func4 (by kernel_rfl)
    (of_decide_eq_true (by kernel_rfl)) (by unfold Func.isWrapper; first | (rw [if_pos (by decide +kernel)]; kernel_rfl) | (rw [if_neg (by decide +kernel)]; exact ⟨rfl, rfl⟩))
    (fun os started H enc _ => lifted os started H enc)
theorem proved : Rows.ModelEncodesSaid := over
#print axioms proved
end Go.Proofs.Ytoologbaoifheaa.modelEncodes
namespace Go.Proofs.Ytoologbaoifheaa
/-- The row, under a short name, for the claim. -/
theorem modelEncodes_holds : Rows.ModelEncodesSaid := modelEncodes.proved
end Go.Proofs.Ytoologbaoifheaa
