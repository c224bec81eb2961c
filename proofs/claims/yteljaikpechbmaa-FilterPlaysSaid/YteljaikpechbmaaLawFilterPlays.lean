/- FilterPlays: for every input the law returns true and each argument reads as it did; over contracts proved by hand. -/
import Derived.Test.YteljaikpechbmaaRows
import Derived.Test.YteljaikpechbmaaHandY
import Derived.WalkKit
import Derived.ProofKit
import Derived.OpenShut
import Derived.ShutString
import Derived.ChangeOld
import Derived.Below
import Derived.SizedLaws
import Derived.Deep.Slices
import Derived.Deep.Fields
import Derived.Deep.Strs
import Derived.Lib.SmallJoins
import Derived.ChangeArms
import Derived.Carry
import Derived.Test.YteljaikpechbmaaWSized
namespace Go.Proofs.Yteljaikpechbmaa.filterPlays
open Go.ChangeShapes Go.WideShapes Go.ChangeAt Go.RowKit Go.Deep
open Go.ChangeMaps (open_string shut_string)
set_option linter.unusedVariables false
theorem own : ownKnob Try.prog.godebug = none := by kernel_rfl
theorem laidOut : laidOutB Try.prog = true := by kernel_rfl
theorem span_i64 {n : Int} (h : (Lit.int .i64 n).wf = true) : -9223372036854775808 ≤ n ∧ n ≤ 9223372036854775807 := by simpa [Lit.wf, IntKind.min, IntKind.max, IntKind.signed, IntKind.bits] using h
set_option maxRecDepth 100000 in
theorem lifted (os : Os) (started : os.Started) (H : Type) (enc : TypeId × Value → H) :
    ReturnsInHanded {} Try.checked os 3 .any (Rows.filterPlaysSpec.pre6 enc Try.prog Try.f3 Rows.filterPlaysRow.domain false) (Rows.filterPlaysSpec.post enc Try.prog Try.f3 false true false false) := by
  refine returnsInHanded_of_change_sized (C := Try.checked) own started (by kernel_rfl) Try.func3
    (ChangeSpec.witness6 (enc := enc) (C := Try.checked) false ⟨#[], #[.int .i64 0, .slice none 0 0, .slice none 0 0], []⟩ 8 (by kernel_rfl) (by kernel_rfl) (by kernel_rfl) (by kernel_rfl)) ?_
  intro W base args ds gs before hval0 hW hcnd hsz0 _
  have hsz : (DataW.weightsEach Try.prog (Try.f3.params.toList ++ Rows.filterPlaysSpec.plain.varTypes Try.prog) (ds ++ gs)).all (· ≤ reachBytes) = true := hsz0
  have hval : ∀ (j : Nat) t v, Try.f3.params[j]? = some t → args[j]? = some v → Value.okWide Try.prog W .any base t v := hval0
  have hW' := hW
  obtain ⟨p, q, hA0, hV, rfl, hfz, hnd⟩ := hW
  have hA : DataW.TrodAll enc Try.prog W 0 (fun _ => true) true Try.f3.params.toList args.toList ds p := hA0
  rw [Try.params3] at hA hval hsz
  obtain ⟨v0, vs0, d0, ds0, p0, q0, hargs, rfl, rfl, h0, r0⟩ := trodAll_cons hA
  obtain ⟨v1, vs1, d1, ds1, p1, q1, rfl, rfl, rfl, h1, r1⟩ := trodAll_cons r0
  obtain ⟨v2, vs2, d2, ds2, p2, q2, rfl, rfl, rfl, h2, r2⟩ := trodAll_cons r1
  obtain ⟨rfl, rfl, rfl⟩ := trodAll_nil r2
  obtain rfl : args = #[v0, v1, v2] := by cases args; simp_all
  obtain ⟨rfl, rfl⟩ := trodVars_none hV
  obtain ⟨a0, rfl, rfl, rfl, w0⟩ := open_int Try.underlying3 (hval 0 3 v0 rfl rfl) h0
  have h0 := span_i64 w0
  obtain ⟨A1, len1, cap1, rfl⟩ := okWide_slice Try.underlying22 (hval 1 22 v1 rfl rfl)
  have k1 := h1
  have lt1 : ∀ x ∈ p1, x.block < W.heap.size := by obtain ⟨m, hm⟩ := k1; exact DataW.trod_lt m _ _ _ hm
  have y1 : len1 * 8 ≤ 140737488351232 := Go.Proofs.YteljaikpechbmaaW.PrintWords.sized_ints hsz (j := 1) (t := 22) rfl rfl Try.underlying22 Try.underlying3 (by kernel_rfl) (by kernel_rfl) h1
  obtain ⟨V1, F1, lc1⟩ : ∃ V1 : Nat → Int, (∀ j, j < len1 → ∃ ad, A1 = some ad ∧ W.cell? (ad.add j) = some (.int .i64 (V1 j)) ∧ -9223372036854775808 ≤ V1 j ∧ V1 j ≤ 9223372036854775807) ∧ (len1 ≤ cap1 ∧ cap1 ≤ maxLen) := by
    obtain ⟨fuel, hf⟩ := h1
    rcases open_slice1 Try.underlying22 (by kernel_rfl) hf with ⟨hcs, hx⟩ | ⟨x, l, c, m, n, V, D, Pl, hcs, _, hl, hm, hmm, hx, he⟩
    · simp [Value.cells] at hcs
      obtain ⟨rfl, rfl, rfl⟩ := hcs
      exact ⟨fun _ => 0, fun j hj => absurd hj (by omega), Nat.le_refl _, by unfold maxLen; omega⟩
    · simp [Value.cells] at hcs
      obtain ⟨rfl, rfl, rfl⟩ := hcs
      have hlm : len1 ≤ m := by rw [hmm]; split <;> omega
      have each : ∀ j, j < len1 → ∃ y : Int, V j = .int .i64 y ∧ (Lit.int .i64 y).wf = true := fun j hj => by
        obtain ⟨y, h1, _, h3⟩ := DataW.trod_int Try.underlying3 (he j (by omega)).2
        exact ⟨y, by simpa using h1, h3⟩
      obtain ⟨Y, hY⟩ := choose_lt each
      exact ⟨Y, fun j hj => ⟨x, rfl, by rw [(he j (by omega)).1, (hY j hj).1], (span_i64 (hY j hj).2).1, (span_i64 (hY j hj).2).2⟩, hl, hm⟩
  obtain ⟨A2, len2, cap2, rfl⟩ := okWide_slice Try.underlying23 (hval 2 23 v2 rfl rfl)
  have k2 := h2
  have lt2 : ∀ x ∈ p2, x.block < W.heap.size := by obtain ⟨m, hm⟩ := k2; exact DataW.trod_lt m _ _ _ hm
  obtain ⟨V2, F2, lc2⟩ : ∃ V2 : Nat → Bool, (∀ j, j < len2 → ∃ ad, A2 = some ad ∧ W.cell? (ad.add j) = some (.bool (V2 j))) ∧ (len2 ≤ cap2 ∧ cap2 ≤ maxLen) := by
    obtain ⟨fuel, hf⟩ := h2
    rcases open_slice1 Try.underlying23 (by kernel_rfl) hf with ⟨hcs, hx⟩ | ⟨x, l, c, m, n, V, D, Pl, hcs, _, hl, hm, hmm, hx, he⟩
    · simp [Value.cells] at hcs
      obtain ⟨rfl, rfl, rfl⟩ := hcs
      exact ⟨fun _ => false, fun j hj => absurd hj (by omega), Nat.le_refl _, by unfold maxLen; omega⟩
    · simp [Value.cells] at hcs
      obtain ⟨rfl, rfl, rfl⟩ := hcs
      have hlm : len2 ≤ m := by rw [hmm]; split <;> omega
      have each : ∀ j, j < len2 → ∃ y : Bool, V j = .bool y := fun j hj => by
        obtain ⟨y, h1, _⟩ := DataW.trod_bool Try.underlying4 (he j (by omega)).2
        exact ⟨y, by simpa using h1⟩
      obtain ⟨Y, hY⟩ := choose_lt each
      exact ⟨Y, fun j hj => ⟨x, rfl, by rw [(he j (by omega)).1, hY j hj]⟩, hl, hm⟩
  clear hA0 hval0 hsz0 hsz
  refine (Hand.Plays_came a0 A1 A2 len1 len2 cap1 cap2 V1 V2 W lc1.1 y1 F1 F2).mono fun e W' ⟨he, bel⟩ => ?_
  subst he
  exact ⟨_, rfl, _, _, _, [], _, [], hW', trodAll_mk1 (shut_bool Try.underlying4 _), (trodAll_cons_mk (shut_int Try.underlying3 w0) (trodAll_cons_mk (Below.trod laidOut (by kernel_rfl) (of_decide_eq_true (by kernel_rfl)) k1 bel lt1) (trodAll_cons_mk (Below.trod laidOut (by kernel_rfl) (of_decide_eq_true (by kernel_rfl)) k2 bel lt2) trodAll_mk0))), rfl, bel.frame _, fun h => by cases h⟩
theorem over : Rows.filterPlaysRow.holds Try.pinned (OpenSpec.ofChange Rows.filterPlaysSpec) :=
  OpenClaim.holds_of_wide 3 Try.f3 rfl rfl rfl rfl rfl rfl rfl ⟨rfl, rfl, rfl, rfl, rfl⟩ rfl rfl rfl rfl rfl (by kernel_rfl) Try.func3 (by kernel_rfl)
    (of_decide_eq_true (by kernel_rfl)) (by unfold Func.isWrapper; first | (rw [if_pos (by decide +kernel)]; kernel_rfl) | (rw [if_neg (by decide +kernel)]; exact ⟨rfl, rfl⟩))
    (fun os started H enc _ => lifted os started H enc)
theorem proved : Rows.FilterPlaysSaid := over
#print axioms proved
end Go.Proofs.Yteljaikpechbmaa.filterPlays
namespace Go.Proofs.Yteljaikpechbmaa
/-- The row, under a short name, for the claim. -/
theorem filterPlays_holds : Rows.FilterPlaysSaid := filterPlays.proved
end Go.Proofs.Yteljaikpechbmaa
