/- RiceBest: for every input the law returns true and each argument reads as it did; over contracts proved by hand. -/
import Derived.Test.YtfhekkoibmlmpaaRows
import Derived.Test.YtfhekkoibmlmpaaBstWWords
import Derived.Test.YtfhekkoibmlmpaaBstWLast
import Derived.Test.YtfhekkoibmlmpaaBstWApart
import Derived.Test.YtfhekkoibmlmpaaBstWFoot
import Derived.Test.YtfhekkoibmlmpaaBstWKept
import Derived.Test.YtfhekkoibmlmpaaBstWShare
import Derived.Test.YtfhekkoibmlmpaaBstWN
import Derived.Test.YtfhekkoibmlmpaaBstWMore
import Derived.Test.YtfhekkoibmlmpaaBstWTab
import Derived.Test.YtfhekkoibmlmpaaBstWRepsOne
import Derived.Test.YtfhekkoibmlmpaaBstWInv
import Derived.Test.YtfhekkoibmlmpaaBstWGuard
import Derived.Test.YtfhekkoibmlmpaaBst1
import Derived.Test.YtfhekkoibmlmpaaBst2
import Derived.Test.YtfhekkoibmlmpaaBst3
import Derived.Test.YtfhekkoibmlmpaaBst4
import Derived.Test.YtfhekkoibmlmpaaBst5
import Derived.Test.YtfhekkoibmlmpaaBst6
import Derived.Test.YtfhekkoibmlmpaaBst7
import Derived.Test.YtfhekkoibmlmpaaBst8
import Derived.WalkKit
import Derived.ProofKit
import Derived.OpenShut
import Derived.ShutString
import Derived.ChangeOld
import Derived.Below
import Derived.SizedLaws
import Derived.Deep.Slices
import Derived.Deep.Fields
import Derived.Deep.Strs
import Derived.Lib.SmallJoins
import Derived.ChangeArms
import Derived.Carry
namespace Go.Proofs.Ytfhekkoibmlmpaa.riceBest
open Go.ChangeShapes Go.WideShapes Go.ChangeAt Go.RowKit Go.Deep Go.Proofs.YtfhekkoibmlmpaaW.PrintWords
open Go.ChangeMaps (open_string shut_string)
set_option linter.unusedVariables false
theorem own : ownKnob Try.prog.godebug = none := by kernel_rfl
theorem laidOut : laidOutB Try.prog = true := by kernel_rfl
theorem span_i64 {n : Int} (h : (Lit.int .i64 n).wf = true) : -9223372036854775808 ≤ n ∧ n ≤ 9223372036854775807 := by simpa [Lit.wf, IntKind.min, IntKind.max, IntKind.signed, IntKind.bits] using h
theorem open_two {P : Program} {W : World} {r : Reach} {b0 : Nat} {k e : TypeId} {v : Value} (hu : P.underlying k = some (.array 2 e)) (hs : P.cellsOf k = 2) (h : Value.okWide P W r b0 k v) : ∃ c0 c1, v = .agg #[c0, c1] := by
  simp only [Value.okWide, hu] at h
  obtain ⟨cs, h1, h2, _⟩ := h
  rw [hs] at h2
  obtain ⟨l⟩ := cs
  match l, h2 with
  | [c0, c1], _ => exact ⟨c0, c1, h1⟩
theorem trod_two {H : Type} {enc : TypeId × Value → H} {P : Program} {w : World} {base : Nat} {spare : Nat → Bool} {held : Bool} {k e : TypeId} {c0 c1 : Value} {d : DataW H} {q : List MemPlace} (hu : P.underlying k = some (.array 2 e)) (hc : P.cellsOf e = 1) (h : DataW.Trod enc P w base spare held k (.agg #[c0, c1]) d q) :
    ∃ (x0 x1 : DataW H × List MemPlace) (m : Nat), d = .agg [x0.1, x1.1] ∧ q = x0.2 ++ x1.2 ∧ DataW.trod enc P w base spare held m e [c0] = some x0 ∧ DataW.trod enc P w base spare held m e [c1] = some x1 := by
  obtain ⟨fuel, hf⟩ := h
  obtain ⟨xs, m, rfl, hx, _, hl, he⟩ := DataW.trod_array hu hf
  rw [hc] at he
  match xs, hl with
  | [x0, x1], _ =>
    have h0 := he 0 (by omega)
    have h1 := he 1 (by omega)
    simp only [Prod.mk.injEq] at hx
    exact ⟨x0, x1, m, by simpa using hx.1, by simpa using hx.2, by simpa [Value.cells] using h0, by simpa [Value.cells] using h1⟩
set_option maxRecDepth 100000 in
theorem lifted (os : Os) (started : os.Started) (H : Type) (enc : TypeId × Value → H) :
    ReturnsInHanded {} Try.checked os 6 .any (Rows.riceBestSpec.pre6 enc Try.prog Try.f6 Rows.riceBestRow.domain false) (Rows.riceBestSpec.post enc Try.prog Try.f6 false true false false) := by
  refine returnsInHanded_of_change_sized (C := Try.checked) own started (by kernel_rfl) Try.func6
    (ChangeSpec.witness6 (enc := enc) (C := Try.checked) false ⟨#[], #[.agg #[.int .i64 0, .int .i64 0], .slice none 0 0, .int .i64 0], []⟩ 8 (by kernel_rfl) (by kernel_rfl) (by kernel_rfl) (by kernel_rfl)) ?_
  intro W base args ds gs before hval0 hW hcnd hsz0 _
  have hsz : (DataW.weightsEach Try.prog (Try.f6.params.toList ++ Rows.riceBestSpec.plain.varTypes Try.prog) (ds ++ gs)).all (· ≤ reachBytes) = true := hsz0
  have hval : ∀ (j : Nat) t v, Try.f6.params[j]? = some t → args[j]? = some v → Value.okWide Try.prog W .any base t v := hval0
  have hW' := hW
  obtain ⟨p, q, hA0, hV, rfl, hfz, hnd⟩ := hW
  have hA : DataW.TrodAll enc Try.prog W 0 (fun _ => true) true Try.f6.params.toList args.toList ds p := hA0
  rw [Try.params6] at hA hval hsz
  obtain ⟨v0, vs0, d0, ds0, p0, q0, hargs, rfl, rfl, h0, r0⟩ := trodAll_cons hA
  obtain ⟨v1, vs1, d1, ds1, p1, q1, rfl, rfl, rfl, h1, r1⟩ := trodAll_cons r0
  obtain ⟨v2, vs2, d2, ds2, p2, q2, rfl, rfl, rfl, h2, r2⟩ := trodAll_cons r1
  obtain ⟨rfl, rfl, rfl⟩ := trodAll_nil r2
  obtain rfl : args = #[v0, v1, v2] := by cases args; simp_all
  obtain ⟨rfl, rfl⟩ := trodVars_none hV
  have k0 := h0
  have lt0 : ∀ x ∈ p0, x.block < W.heap.size := by obtain ⟨m, hm⟩ := k0; exact DataW.trod_lt m _ _ _ hm
  obtain ⟨c0_0, c0_1, rfl⟩ := open_two Try.underlying25 (by kernel_rfl) (hval 0 25 v0 rfl rfl)
  obtain ⟨x0_0, x0_1, m0, rfl, hp0, g0_0, g0_1⟩ := trod_two Try.underlying25 (by kernel_rfl) h0
  obtain ⟨a0_0, e0_0, -, u0_0⟩ := DataW.trod_int Try.underlying3 g0_0
  simp only [List.cons.injEq, and_true] at e0_0
  subst e0_0
  have h0_0 := span_i64 u0_0
  obtain ⟨a0_1, e0_1, -, u0_1⟩ := DataW.trod_int Try.underlying3 g0_1
  simp only [List.cons.injEq, and_true] at e0_1
  subst e0_1
  have h0_1 := span_i64 u0_1
  have k1 := h1
  have lt1 : ∀ x ∈ p1, x.block < W.heap.size := by obtain ⟨m, hm⟩ := k1; exact DataW.trod_lt m _ _ _ hm
  obtain ⟨A1, len1, cap1, rfl⟩ := okWide_slice Try.underlying22 (hval 1 22 v1 rfl rfl)
  obtain ⟨fu1, hf1⟩ := h1
  obtain ⟨l1, ⟨A1', c1', hcs1, hc1, hC1⟩, hR1, hG1, hZ1⟩ := (@Op.op_slice (Int) ⟨(0 : Int)⟩ _ _ _ _ _ _ _ 8 Try.underlying22 (by kernel_rfl) (by kernel_rfl) (Op.op_int (-9223372036854775808) (9223372036854775807) Try.underlying3 (fun _ h => span_i64 h))) H enc W 0 (fun _ => true) true fu1 _ (d1, p1) hf1
  simp only [Value.cells, List.cons.injEq, Value.slice.injEq, and_true] at hcs1
  obtain ⟨rfl, rfl, rfl⟩ := hcs1
  have G1 := hG1 (Op.weights_of hsz (j := 1) rfl rfl)
  obtain ⟨a2, rfl, rfl, rfl, w2⟩ := open_int Try.underlying3 (hval 2 3 v2 rfl rfl) h2
  have h2 := span_i64 w2
  clear hA0 hval0 hsz0 hsz
  refine (Hand.BestLaw_any a0_0 a0_1 l1 A1 cap1 a2 W hC1 hc1 hR1.2).mono fun e W' ⟨he, bel⟩ => ?_
  subst he
  exact ⟨_, rfl, _, _, _, [], _, [], hW', trodAll_mk1 (shut_bool Try.underlying4 _), (trodAll_cons_mk (Below.trod laidOut (by kernel_rfl) (of_decide_eq_true (by kernel_rfl)) k0 bel lt0) (trodAll_cons_mk (Below.trod laidOut (by kernel_rfl) (of_decide_eq_true (by kernel_rfl)) k1 bel lt1) (trodAll_cons_mk (shut_int Try.underlying3 w2) trodAll_mk0))), rfl, bel.frame _, fun h => by cases h⟩
theorem over : Rows.riceBestRow.holds Try.pinned (OpenSpec.ofChange Rows.riceBestSpec) :=
  OpenClaim.holds_of_wide 6 Try.f6 rfl rfl rfl rfl rfl rfl rfl ⟨rfl, rfl, rfl, rfl, rfl⟩ rfl rfl rfl rfl rfl (by kernel_rfl) Try.func6 (by kernel_rfl)
    (of_decide_eq_true (by kernel_rfl)) (by unfold Func.isWrapper; first | (rw [if_pos (by decide +kernel)]; kernel_rfl) | (rw [if_neg (by decide +kernel)]; exact ⟨rfl, rfl⟩))
    (fun os started H enc _ => lifted os started H enc)
theorem proved : Rows.RiceBestSaid := over
#print axioms proved
end Go.Proofs.Ytfhekkoibmlmpaa.riceBest
namespace Go.Proofs.Ytfhekkoibmlmpaa
/-- The row, under a short name, for the claim. -/
theorem riceBest_holds : Rows.RiceBestSaid := riceBest.proved
end Go.Proofs.Ytfhekkoibmlmpaa
