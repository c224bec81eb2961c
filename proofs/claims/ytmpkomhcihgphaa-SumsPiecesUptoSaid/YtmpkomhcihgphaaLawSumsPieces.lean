/- SumsPieces: where the arguments hold together at most 1048576 values and letters, the law returns true and each argument reads as it did; over contracts proved by hand. -/
import Derived.Test.YtmpkomhcihgphaaRows
import Derived.Test.YtmpkomhcihgphaaHandU
import Derived.WalkKit
import Derived.ProofKit
import Derived.OpenShut
import Derived.ShutString
import Derived.ChangeOld
import Derived.Below
import Derived.SizedLaws
import Derived.Deep.Slices
import Derived.Deep.Strs
import Derived.Lib.SmallJoins
import Derived.ChangeArms
import Derived.Carry
import Derived.Test.YtmpkomhcihgphaaWSized
import Derived.JoinedCond
namespace Go.Proofs.Ytmpkomhcihgphaa.sumsPiecesUpto
open Go.ChangeShapes Go.WideShapes Go.ChangeAt Go.RowKit Go.Deep
open Go.ChangeMaps (open_string shut_string)
set_option linter.unusedVariables false
theorem own : ownKnob Try.prog.godebug = none := by kernel_rfl
theorem laidOut : laidOutB Try.prog = true := by kernel_rfl
theorem span_i64 {n : Int} (h : (Lit.int .i64 n).wf = true) : -9223372036854775808 ≤ n ∧ n ≤ 9223372036854775807 := by simpa [Lit.wf, IntKind.min, IntKind.max, IntKind.signed, IntKind.bits] using h
set_option maxRecDepth 100000 in
theorem lifted (os : Os) (started : os.Started) (H : Type) (enc : TypeId × Value → H) (F : Stop.Interp) :
    ReturnsInHanded {} Try.checked os 4 .any ((Rows.OpenSpec.upto Rows.sumsPiecesSpec).pre6 enc Try.prog Try.f4 Rows.sumsPiecesUptoRow.domain false) (((Rows.OpenSpec.upto Rows.sumsPiecesSpec).at F).post enc Try.prog Try.f4 false true false false) := by
  refine returnsInHanded_of_cond (C := Try.checked) (s := Rows.OpenSpec.upto Rows.sumsPiecesSpec) (k := Rows.uptoSmall) rfl own started (by kernel_rfl) Try.func4
    (OpenSpec.witness (enc := enc) (C := Try.checked) (s := Rows.OpenSpec.upto Rows.sumsPiecesSpec) (k := Rows.uptoSmall) rfl false ⟨#[], #[.slice none 0 0, .int .i64 0], []⟩ 8 (by kernel_rfl) (by kernel_rfl) (by kernel_rfl)
      (x := ([.nil, .lit (.int .i64 0)], [], [])) (by kernel_rfl) rfl (by kernel_rfl)) ?_
  intro W base args ds gs before hval0 hW _ hkk _
  have hup : Rows.uptoBulkAll (ds ++ gs) ≤ 1048576 := of_decide_eq_true hkk
  have hval : ∀ (j : Nat) t v, Try.f4.params[j]? = some t → args[j]? = some v → Value.okWide Try.prog W .any base t v := hval0
  have hW' := hW
  obtain ⟨p, q, hA0, hV, rfl, hfz, hnd⟩ := hW
  have hA : DataW.TrodAll enc Try.prog W 0 (fun _ => true) true Try.f4.params.toList args.toList ds p := hA0
  rw [Try.params4] at hA hval
  obtain ⟨v0, vs0, d0, ds0, p0, q0, hargs, rfl, rfl, h0, r0⟩ := trodAll_cons hA
  obtain ⟨v1, vs1, d1, ds1, p1, q1, rfl, rfl, rfl, h1, r1⟩ := trodAll_cons r0
  obtain ⟨rfl, rfl, rfl⟩ := trodAll_nil r1
  obtain rfl : args = #[v0, v1] := by cases args; simp_all
  obtain ⟨rfl, rfl⟩ := trodVars_none hV
  obtain ⟨A0, len0, cap0, rfl⟩ := okWide_slice Try.underlying25 (hval 0 25 v0 rfl rfl)
  have k0 := h0
  have lt0 : ∀ x ∈ p0, x.block < W.heap.size := by obtain ⟨m, hm⟩ := k0; exact DataW.trod_lt m _ _ _ hm
  obtain ⟨V0, sp, F0, lc0, D0⟩ : ∃ V0 : Nat → ByteArray, ∃ sp : List (DataW H), (∀ j, j < len0 → ∃ ad, A0 = some ad ∧ W.cell? (ad.add j) = some (.string (V0 j)) ∧ (V0 j).size ≤ maxLen) ∧ (len0 ≤ cap0 ∧ cap0 ≤ maxLen) ∧ d0 = (if len0 = 0 ∧ A0 = none then .nil else .slice ((List.range len0).map fun j => .lit (.string (V0 j).data.toList)) sp) := by
    obtain ⟨fuel, hf⟩ := h0
    rcases open_slice1 Try.underlying25 (by kernel_rfl) hf with ⟨hcs, hx⟩ | ⟨x, l, c, m, n, V, D, Pl, hcs, _, hl, hm, hmm, hx, he⟩
    · simp [Value.cells] at hcs
      obtain ⟨rfl, rfl, rfl⟩ := hcs
      simp only [Prod.mk.injEq] at hx
      exact ⟨fun _ => ⟨#[]⟩, [], fun j hj => absurd hj (by omega), ⟨Nat.le_refl _, by unfold maxLen; omega⟩, by simp [hx.1]⟩
    · simp [Value.cells] at hcs
      obtain ⟨rfl, rfl, rfl⟩ := hcs
      have hlm : len0 ≤ m := by rw [hmm]; split <;> omega
      have each : ∀ j, j < len0 → ∃ y : ByteArray, V j = .string y ∧ D j = .lit (.string y.data.toList) ∧ y.size ≤ maxLen := fun j hj => by
        obtain ⟨y, h1, h2, h3⟩ := DataW.trod_string Try.underlying9 (he j (by omega)).2
        simp only [Prod.mk.injEq] at h2
        exact ⟨y, by simpa using h1, h2.1, h3⟩
      obtain ⟨Y, hY⟩ := choose_lt each
      simp only [Prod.mk.injEq] at hx
      refine ⟨Y, (List.range (m - len0)).map (fun j => D (len0 + j)), fun j hj => ⟨x, rfl, by rw [(he j (by omega)).1, (hY j hj).1], (hY j hj).2.2⟩, ⟨hl, hm⟩, ?_⟩
      rw [if_neg (fun h => by cases h.2), hx.1, List.map_congr_left (fun j hj => (hY j (List.mem_range.1 hj)).2.1)]
  obtain ⟨a1, rfl, rfl, rfl, w1⟩ := open_int Try.underlying3 (hval 1 3 v1 rfl rfl) h1
  have h1 := span_i64 w1
  rw [List.append_nil] at hup
  clear hA0 hval0
  refine (Hand.Pieces_any a1 A0 len0 cap0 V0 W F0 (Hand.cat_up V0 len0 A0 sp _ a1 D0 hup)).mono fun e W' ⟨he, bel⟩ => ?_
  subst he
  exact ⟨_, rfl, _, _, _, [], _, [], hW', trodAll_mk1 (shut_bool Try.underlying4 _), (trodAll_cons_mk (Below.trod laidOut (by kernel_rfl) (of_decide_eq_true (by kernel_rfl)) k0 bel lt0) (trodAll_cons_mk (shut_int Try.underlying3 w1) trodAll_mk0)), rfl, bel.frame _, fun h => by cases h⟩
theorem over : Rows.sumsPiecesUptoRow.holds Try.pinned (Rows.OpenSpec.upto Rows.sumsPiecesSpec) :=
  OpenClaim.holds_of_cond 4 Try.f4 rfl rfl rfl rfl rfl rfl rfl ⟨rfl, rfl, rfl, rfl, rfl⟩ rfl rfl rfl rfl rfl (by kernel_rfl) Try.func4 (by kernel_rfl)
    (of_decide_eq_true (by kernel_rfl)) (by unfold Func.isWrapper; first | (rw [if_pos (by decide +kernel)]; kernel_rfl) | (rw [if_neg (by decide +kernel)]; exact ⟨rfl, rfl⟩))
    (fun os started H enc _ F => lifted os started H enc F)
theorem proved : Rows.SumsPiecesUptoSaid := over
#print axioms proved
end Go.Proofs.Ytmpkomhcihgphaa.sumsPiecesUpto
namespace Go.Proofs.Ytmpkomhcihgphaa
/-- The row, under a short name, for the claim. -/
theorem sumsPiecesUpto_holds : Rows.SumsPiecesUptoSaid := sumsPiecesUpto.proved
end Go.Proofs.Ytmpkomhcihgphaa
