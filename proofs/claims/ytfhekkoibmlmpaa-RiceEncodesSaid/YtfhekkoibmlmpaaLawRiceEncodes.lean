/- RiceEncodes: for every input the law returns true and each argument reads as it did; over contracts proved by hand. -/
import Derived.Test.YtfhekkoibmlmpaaRows
import Derived.Test.YtfhekkoibmlmpaaEncWWords
import Derived.Test.YtfhekkoibmlmpaaEncWLast
import Derived.Test.YtfhekkoibmlmpaaEncWApart
import Derived.Test.YtfhekkoibmlmpaaEncWFoot
import Derived.Test.YtfhekkoibmlmpaaEncWKept
import Derived.Test.YtfhekkoibmlmpaaEncWShare
import Derived.Test.YtfhekkoibmlmpaaEncWN
import Derived.Test.YtfhekkoibmlmpaaEncWMore
import Derived.Test.YtfhekkoibmlmpaaEncWTab
import Derived.Test.YtfhekkoibmlmpaaEncWRepsOne
import Derived.Test.YtfhekkoibmlmpaaEncWInv
import Derived.Test.YtfhekkoibmlmpaaEncWGuard
import Derived.Test.YtfhekkoibmlmpaaEnc1
import Derived.Test.YtfhekkoibmlmpaaEnc2
import Derived.Test.YtfhekkoibmlmpaaEnc3
import Derived.Test.YtfhekkoibmlmpaaEnc4
import Derived.Test.YtfhekkoibmlmpaaEnc5
import Derived.Test.YtfhekkoibmlmpaaEnc6
import Derived.Test.YtfhekkoibmlmpaaEnc7
import Derived.Test.YtfhekkoibmlmpaaEnc8
import Derived.WalkKit
import Derived.ProofKit
import Derived.OpenShut
import Derived.ShutString
import Derived.ChangeOld
import Derived.Below
import Derived.SizedLaws
import Derived.Deep.Slices
import Derived.Deep.Fields
import Derived.Deep.Strs
import Derived.Lib.SmallJoins
import Derived.ChangeArms
import Derived.Carry
namespace Go.Proofs.Ytfhekkoibmlmpaa.riceEncodes
open Go.ChangeShapes Go.WideShapes Go.ChangeAt Go.RowKit Go.Deep Go.Proofs.YtfhekkoibmlmpaaW.PrintWords
open Go.ChangeMaps (open_string shut_string)
set_option linter.unusedVariables false
theorem own : ownKnob Try.prog.godebug = none := by kernel_rfl
theorem laidOut : laidOutB Try.prog = true := by kernel_rfl
theorem span_i64 {n : Int} (h : (Lit.int .i64 n).wf = true) : -9223372036854775808 ≤ n ∧ n ≤ 9223372036854775807 := by simpa [Lit.wf, IntKind.min, IntKind.max, IntKind.signed, IntKind.bits] using h
theorem open_two {P : Program} {W : World} {r : Reach} {b0 : Nat} {k e : TypeId} {v : Value} (hu : P.underlying k = some (.array 2 e)) (hs : P.cellsOf k = 2) (h : Value.okWide P W r b0 k v) : ∃ c0 c1, v = .agg #[c0, c1] := by
  simp only [Value.okWide, hu] at h
  obtain ⟨cs, h1, h2, _⟩ := h
  rw [hs] at h2
  obtain ⟨l⟩ := cs
  match l, h2 with
  | [c0, c1], _ => exact ⟨c0, c1, h1⟩
theorem trod_two {H : Type} {enc : TypeId × Value → H} {P : Program} {w : World} {base : Nat} {spare : Nat → Bool} {held : Bool} {k e : TypeId} {c0 c1 : Value} {d : DataW H} {q : List MemPlace} (hu : P.underlying k = some (.array 2 e)) (hc : P.cellsOf e = 1) (h : DataW.Trod enc P w base spare held k (.agg #[c0, c1]) d q) :
    ∃ (x0 x1 : DataW H × List MemPlace) (m : Nat), d = .agg [x0.1, x1.1] ∧ q = x0.2 ++ x1.2 ∧ DataW.trod enc P w base spare held m e [c0] = some x0 ∧ DataW.trod enc P w base spare held m e [c1] = some x1 := by
  obtain ⟨fuel, hf⟩ := h
  obtain ⟨xs, m, rfl, hx, _, hl, he⟩ := DataW.trod_array hu hf
  rw [hc] at he
  match xs, hl with
  | [x0, x1], _ =>
    have h0 := he 0 (by omega)
    have h1 := he 1 (by omega)
    simp only [Prod.mk.injEq] at hx
    exact ⟨x0, x1, m, by simpa using hx.1, by simpa using hx.2, by simpa [Value.cells] using h0, by simpa [Value.cells] using h1⟩
set_option maxRecDepth 100000 in
theorem lifted (os : Os) (started : os.Started) (H : Type) (enc : TypeId × Value → H) :
    ReturnsInHanded {} Try.checked os 3 .any (Rows.riceEncodesSpec.pre6 enc Try.prog Try.f3 Rows.riceEncodesRow.domain false) (Rows.riceEncodesSpec.post enc Try.prog Try.f3 false true false false) := by
  refine returnsInHanded_of_change_sized (C := Try.checked) own started (by kernel_rfl) Try.func3
    (ChangeSpec.witness6 (enc := enc) (C := Try.checked) false ⟨#[], #[.agg #[.int .i64 0, .int .i64 0, .slice none 0 0, .slice none 0 0], .agg #[.int .i64 0, .int .i64 0], .slice none 0 0], []⟩ 8 (by kernel_rfl) (by kernel_rfl) (by kernel_rfl) (by kernel_rfl)) ?_
  intro W base args ds gs before hval0 hW hcnd hsz0 _
  have hsz : (DataW.weightsEach Try.prog (Try.f3.params.toList ++ Rows.riceEncodesSpec.plain.varTypes Try.prog) (ds ++ gs)).all (· ≤ reachBytes) = true := hsz0
  have hval : ∀ (j : Nat) t v, Try.f3.params[j]? = some t → args[j]? = some v → Value.okWide Try.prog W .any base t v := hval0
  have hW' := hW
  obtain ⟨p, q, hA0, hV, rfl, hfz, hnd⟩ := hW
  have hA : DataW.TrodAll enc Try.prog W 0 (fun _ => true) true Try.f3.params.toList args.toList ds p := hA0
  rw [Try.params3] at hA hval hsz
  obtain ⟨v0, vs0, d0, ds0, p0, q0, hargs, rfl, rfl, h0, r0⟩ := trodAll_cons hA
  obtain ⟨v1, vs1, d1, ds1, p1, q1, rfl, rfl, rfl, h1, r1⟩ := trodAll_cons r0
  obtain ⟨v2, vs2, d2, ds2, p2, q2, rfl, rfl, rfl, h2, r2⟩ := trodAll_cons r1
  obtain ⟨rfl, rfl, rfl⟩ := trodAll_nil r2
  obtain rfl : args = #[v0, v1, v2] := by cases args; simp_all
  obtain ⟨rfl, rfl⟩ := trodVars_none hV
  have k0 := h0
  have lt0 : ∀ x ∈ p0, x.block < W.heap.size := by obtain ⟨m, hm⟩ := k0; exact DataW.trod_lt m _ _ _ hm
  obtain ⟨cs0, rfl, sz0⟩ := okWide_struct Try.underlying24 (hval 0 24 v0 rfl rfl)
  obtain ⟨fu0, hf0⟩ := h0
  obtain ⟨⟨y0_0, y0_1, y0_2, y0_3⟩, ⟨_, _, e0, rfl, ⟨_, _, rfl, rfl, ⟨_, _, rfl, ⟨A0_2, c0_2, rfl, hc0_2, hC0_2⟩, ⟨A0_3, c0_3, rfl, hc0_3, hC0_3⟩⟩⟩⟩, hR0, hG0, hZ0⟩ := (Op.op_struct Try.underlying24 (by kernel_rfl) rfl (Op.opF_cons (Op.op_int (-9223372036854775808) (9223372036854775807) Try.underlying3 (fun _ h => span_i64 h)) (Op.opF_cons (Op.op_int (-9223372036854775808) (9223372036854775807) Try.underlying3 (fun _ h => span_i64 h)) (Op.opF_cons (@Op.op_slice (Int) ⟨(0 : Int)⟩ _ _ _ _ _ _ _ 8 Try.underlying22 (by kernel_rfl) (by kernel_rfl) (Op.op_int (-9223372036854775808) (9223372036854775807) Try.underlying3 (fun _ h => span_i64 h))) (Op.opF_one (@Op.op_slice (Int) ⟨(0 : Int)⟩ _ _ _ _ _ _ _ 8 Try.underlying22 (by kernel_rfl) (by kernel_rfl) (Op.op_int (-9223372036854775808) (9223372036854775807) Try.underlying3 (fun _ h => span_i64 h)))))))) H enc W 0 (fun _ => true) true fu0 _ (d0, p0) hf0
  obtain rfl : cs0 = #[.int .i64 y0_0, .int .i64 y0_1, .slice A0_2 y0_2.length c0_2, .slice A0_3 y0_3.length c0_3] := by
    obtain ⟨cl⟩ := cs0
    simp [Value.cells] at e0
    rw [e0]
  have G0 := hG0 (Op.weights_of hsz (j := 0) rfl rfl)
  have k1 := h1
  have lt1 : ∀ x ∈ p1, x.block < W.heap.size := by obtain ⟨m, hm⟩ := k1; exact DataW.trod_lt m _ _ _ hm
  obtain ⟨c1_0, c1_1, rfl⟩ := open_two Try.underlying25 (by kernel_rfl) (hval 1 25 v1 rfl rfl)
  obtain ⟨x1_0, x1_1, m1, rfl, hp1, g1_0, g1_1⟩ := trod_two Try.underlying25 (by kernel_rfl) h1
  obtain ⟨a1_0, e1_0, -, u1_0⟩ := DataW.trod_int Try.underlying3 g1_0
  simp only [List.cons.injEq, and_true] at e1_0
  subst e1_0
  have h1_0 := span_i64 u1_0
  obtain ⟨a1_1, e1_1, -, u1_1⟩ := DataW.trod_int Try.underlying3 g1_1
  simp only [List.cons.injEq, and_true] at e1_1
  subst e1_1
  have h1_1 := span_i64 u1_1
  have k2 := h2
  have lt2 : ∀ x ∈ p2, x.block < W.heap.size := by obtain ⟨m, hm⟩ := k2; exact DataW.trod_lt m _ _ _ hm
  obtain ⟨A2, len2, cap2, rfl⟩ := okWide_slice Try.underlying22 (hval 2 22 v2 rfl rfl)
  obtain ⟨fu2, hf2⟩ := h2
  obtain ⟨l2, ⟨A2', c2', hcs2, hc2, hC2⟩, hR2, hG2, hZ2⟩ := (@Op.op_slice (Int) ⟨(0 : Int)⟩ _ _ _ _ _ _ _ 8 Try.underlying22 (by kernel_rfl) (by kernel_rfl) (Op.op_int (-9223372036854775808) (9223372036854775807) Try.underlying3 (fun _ h => span_i64 h))) H enc W 0 (fun _ => true) true fu2 _ (d2, p2) hf2
  simp only [Value.cells, List.cons.injEq, Value.slice.injEq, and_true] at hcs2
  obtain ⟨rfl, rfl, rfl⟩ := hcs2
  have G2 := hG2 (Op.weights_of hsz (j := 2) rfl rfl)
  clear hA0 hval0 hsz0 hsz
  refine (Hand.EncodesLaw_any y0_0 y0_1 a1_0 a1_1 y0_2 y0_3 l2 A0_2 A0_3 A2 c0_2 c0_3 cap2 W hR0.1.1 hR0.1.2 hC0_2 hc0_2 hC0_3 hc0_3 hC2 hc2).mono fun e W' ⟨he, bel⟩ => ?_
  subst he
  exact ⟨_, rfl, _, _, _, [], _, [], hW', trodAll_mk1 (shut_bool Try.underlying4 _), (trodAll_cons_mk (Below.trod laidOut (by kernel_rfl) (of_decide_eq_true (by kernel_rfl)) k0 bel lt0) (trodAll_cons_mk (Below.trod laidOut (by kernel_rfl) (of_decide_eq_true (by kernel_rfl)) k1 bel lt1) (trodAll_cons_mk (Below.trod laidOut (by kernel_rfl) (of_decide_eq_true (by kernel_rfl)) k2 bel lt2) trodAll_mk0))), rfl, bel.frame _, fun h => by cases h⟩
theorem over : Rows.riceEncodesRow.holds Try.pinned (OpenSpec.ofChange Rows.riceEncodesSpec) :=
  OpenClaim.holds_of_wide 3 Try.f3 rfl rfl rfl rfl rfl rfl rfl ⟨rfl, rfl, rfl, rfl, rfl⟩ rfl rfl rfl rfl rfl (by kernel_rfl) Try.func3 (by kernel_rfl)
    (of_decide_eq_true (by kernel_rfl)) (by unfold Func.isWrapper; first | (rw [if_pos (by decide +kernel)]; kernel_rfl) | (rw [if_neg (by decide +kernel)]; exact ⟨rfl, rfl⟩))
    (fun os started H enc _ => lifted os started H enc)
theorem proved : Rows.RiceEncodesSaid := over
#print axioms proved
end Go.Proofs.Ytfhekkoibmlmpaa.riceEncodes
namespace Go.Proofs.Ytfhekkoibmlmpaa
/-- The row, under a short name, for the claim. -/
theorem riceEncodes_holds : Rows.RiceEncodesSaid := riceEncodes.proved
end Go.Proofs.Ytfhekkoibmlmpaa
