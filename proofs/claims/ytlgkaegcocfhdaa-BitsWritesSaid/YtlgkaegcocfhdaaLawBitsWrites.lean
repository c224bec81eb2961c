/- BitsWrites: for every input the law returns true and each argument reads as it did; over contracts proved by hand. -/
import Derived.Test.YtlgkaegcocfhdaaRows
import Derived.Test.YtlgkaegcocfhdaaHandT
import Derived.WalkKit
import Derived.ProofKit
import Derived.OpenShut
import Derived.ShutString
import Derived.ChangeOld
import Derived.Below
import Derived.SizedLaws
import Derived.Deep.Slices
import Derived.Deep.Fields
import Derived.Deep.Strs
import Derived.Lib.SmallJoins
import Derived.ChangeArms
import Derived.Carry
import Derived.Test.YtlgkaegcocfhdaaWSized
namespace Go.Proofs.Ytlgkaegcocfhdaa.bitsWrites
open Go.ChangeShapes Go.WideShapes Go.ChangeAt Go.RowKit Go.Deep
open Go.ChangeMaps (open_string shut_string)
set_option linter.unusedVariables false
theorem own : ownKnob Try.prog.godebug = none := by kernel_rfl
theorem laidOut : laidOutB Try.prog = true := by kernel_rfl
theorem span_i64 {n : Int} (h : (Lit.int .i64 n).wf = true) : -9223372036854775808 ≤ n ∧ n ≤ 9223372036854775807 := by simpa [Lit.wf, IntKind.min, IntKind.max, IntKind.signed, IntKind.bits] using h
theorem span_u64 {n : Int} (h : (Lit.int .u64 n).wf = true) : 0 ≤ n ∧ n ≤ 18446744073709551615 := by simpa [Lit.wf, IntKind.min, IntKind.max, IntKind.signed, IntKind.bits] using h
theorem open_structs {H : Type} {enc : TypeId × Value → H} {P : Program} {w : World} {base : Nat} {spare : Nat → Bool} {held : Bool} {t e : TypeId} {fs : Array Field} {fuel : Nat} {cs : List Value} {x : DataW H × List MemPlace} (ht : P.underlying t = some (.slice e)) (he : P.underlying e = some (.struct fs)) (ce : P.cellsOf e = fs.size) (hone : Go.Deep.oneCellFields P fs = true)
    (h : DataW.trod enc P w base spare held fuel t cs = some x) :
    cs = [.slice none 0 0] ∨ ∃ (a : Addr) (len cap n : Nat), cs = [.slice (some a) len cap] ∧ len ≤ cap ∧ cap ≤ maxLen ∧ ∀ i, i < len → ∀ (j : Nat) (f : Field), fs[j]? = some f → ∃ v y, w.cell? (a.add (i * fs.size + j)) = some v ∧ DataW.trod enc P w base spare held n f.type [v] = some y := by
  rcases open_slice ht h with h0 | ⟨a, len, cap, m, n, D, Pl, rfl, hb, hl, hm, hmm, rfl, hx⟩
  · exact .inl h0.1
  right
  have hlm : len ≤ m := by rw [hmm]; split <;> omega
  refine ⟨a, len, cap, n - 1, rfl, hl, hm, fun i hi j f hf => ?_⟩
  obtain ⟨cs', h1, h2⟩ := hx i (by omega)
  rw [ce] at h1
  obtain ⟨_, hlen, hcell⟩ := World.cells?_some h1
  obtain ⟨xs, k, hk, hxy, _, hxl, hfs⟩ := DataW.trod_struct he h2
  have hk' : k = n - 1 := by omega
  subst hk'
  have hj : j < fs.size := by
    rcases Nat.lt_or_ge j fs.size with h | h
    · exact h
    · rw [Array.getElem?_eq_none h] at hf; cases hf
  have g := hfs j f hf
  obtain ⟨o, k1⟩ := Go.Deep.hone_of hone j f hf
  rw [o, k1] at g
  have e := hcell j (by omega)
  have e2 : (cs'.drop j).take 1 = [cs'[j]'(by omega)] := by
    rw [List.drop_eq_getElem_cons (by omega)]
    rfl
  rw [e2, List.getElem?_eq_getElem (by omega)] at g
  rw [Go.Deep.add_add] at e
  rw [List.getElem?_eq_getElem (by omega)] at e
  exact ⟨_, _, e, g⟩
set_option maxRecDepth 100000 in
theorem lifted (os : Os) (started : os.Started) (H : Type) (enc : TypeId × Value → H) :
    ReturnsInHanded {} Try.checked os 5 .any (Rows.bitsWritesSpec.pre6 enc Try.prog Try.f5 Rows.bitsWritesRow.domain false) (Rows.bitsWritesSpec.post enc Try.prog Try.f5 false true false false) := by
  refine returnsInHanded_of_change_sized (C := Try.checked) own started (by kernel_rfl) Try.func5
    (ChangeSpec.witness6 (enc := enc) (C := Try.checked) false ⟨#[], #[.slice none 0 0], []⟩ 8 (by kernel_rfl) (by kernel_rfl) (by kernel_rfl) (by kernel_rfl)) ?_
  intro W base args ds gs before hval0 hW hcnd hsz0 _
  have hsz : (DataW.weightsEach Try.prog (Try.f5.params.toList ++ Rows.bitsWritesSpec.plain.varTypes Try.prog) (ds ++ gs)).all (· ≤ reachBytes) = true := hsz0
  have hval : ∀ (j : Nat) t v, Try.f5.params[j]? = some t → args[j]? = some v → Value.okWide Try.prog W .any base t v := hval0
  have hW' := hW
  obtain ⟨p, q, hA0, hV, rfl, hfz, hnd⟩ := hW
  have hA : DataW.TrodAll enc Try.prog W 0 (fun _ => true) true Try.f5.params.toList args.toList ds p := hA0
  rw [Try.params5] at hA hval hsz
  obtain ⟨v0, vs0, d0, ds0, p0, q0, hargs, rfl, rfl, h0, r0⟩ := trodAll_cons hA
  obtain ⟨rfl, rfl, rfl⟩ := trodAll_nil r0
  obtain rfl : args = #[v0] := by cases args; simp_all
  obtain ⟨rfl, rfl⟩ := trodVars_none hV
  obtain ⟨A0, len0, cap0, rfl⟩ := okWide_slice Try.underlying35 (hval 0 35 v0 rfl rfl)
  have k0 := h0
  have lt0 : ∀ x ∈ p0, x.block < W.heap.size := by obtain ⟨m, hm⟩ := k0; exact DataW.trod_lt m _ _ _ hm
  obtain ⟨V0_0, V0_1, V0_2, V0_3, F0, lc0⟩ : ∃ (V0_0 : Nat → Int) (V0_1 : Nat → Int) (V0_2 : Nat → Int) (V0_3 : Nat → Int), (∀ j, j < len0 → ∃ ad, A0 = some ad ∧ (W.cell? (ad.add (j * 4 + 0)) = some (.int .i64 (V0_0 j)) ∧ -9223372036854775808 ≤ V0_0 j ∧ V0_0 j ≤ 9223372036854775807) ∧ (W.cell? (ad.add (j * 4 + 1)) = some (.int .i64 (V0_1 j)) ∧ -9223372036854775808 ≤ V0_1 j ∧ V0_1 j ≤ 9223372036854775807) ∧ (W.cell? (ad.add (j * 4 + 2)) = some (.int .i64 (V0_2 j)) ∧ -9223372036854775808 ≤ V0_2 j ∧ V0_2 j ≤ 9223372036854775807) ∧ (W.cell? (ad.add (j * 4 + 3)) = some (.int .u64 (V0_3 j)) ∧ 0 ≤ V0_3 j ∧ V0_3 j ≤ 18446744073709551615)) ∧ (len0 ≤ cap0 ∧ cap0 ≤ maxLen) := by
    obtain ⟨fuel, hf⟩ := h0
    rcases open_structs Try.underlying35 Try.underlying27 (by kernel_rfl) (by kernel_rfl) hf with hcs | ⟨x, l, c, n, hcs, hl, hm, he⟩
    · simp [Value.cells] at hcs
      obtain ⟨rfl, rfl, rfl⟩ := hcs
      exact ⟨fun _ => 0, fun _ => 0, fun _ => 0, fun _ => 0, fun j hj => absurd hj (by omega), Nat.le_refl _, by unfold maxLen; omega⟩
    · simp [Value.cells] at hcs
      obtain ⟨rfl, rfl, rfl⟩ := hcs
      have e0 : ∀ j, j < len0 → ∃ y : Int, W.cell? (x.add (j * 4 + 0)) = some (.int .i64 (y)) ∧ -9223372036854775808 ≤ y ∧ y ≤ 9223372036854775807 := fun j hj => by
        obtain ⟨v, y, h1, h2⟩ := he j hj 0 _ rfl
        obtain ⟨n, h3, _, h4⟩ := DataW.trod_int Try.underlying3 h2
        simp only [List.cons.injEq, and_true] at h3
        subst h3
        exact ⟨n, h1, (span_i64 h4).1, (span_i64 h4).2⟩
      obtain ⟨Y0, hY0⟩ := choose_lt e0
      have e1 : ∀ j, j < len0 → ∃ y : Int, W.cell? (x.add (j * 4 + 1)) = some (.int .i64 (y)) ∧ -9223372036854775808 ≤ y ∧ y ≤ 9223372036854775807 := fun j hj => by
        obtain ⟨v, y, h1, h2⟩ := he j hj 1 _ rfl
        obtain ⟨n, h3, _, h4⟩ := DataW.trod_int Try.underlying3 h2
        simp only [List.cons.injEq, and_true] at h3
        subst h3
        exact ⟨n, h1, (span_i64 h4).1, (span_i64 h4).2⟩
      obtain ⟨Y1, hY1⟩ := choose_lt e1
      have e2 : ∀ j, j < len0 → ∃ y : Int, W.cell? (x.add (j * 4 + 2)) = some (.int .i64 (y)) ∧ -9223372036854775808 ≤ y ∧ y ≤ 9223372036854775807 := fun j hj => by
        obtain ⟨v, y, h1, h2⟩ := he j hj 2 _ rfl
        obtain ⟨n, h3, _, h4⟩ := DataW.trod_int Try.underlying3 h2
        simp only [List.cons.injEq, and_true] at h3
        subst h3
        exact ⟨n, h1, (span_i64 h4).1, (span_i64 h4).2⟩
      obtain ⟨Y2, hY2⟩ := choose_lt e2
      have e3 : ∀ j, j < len0 → ∃ y : Int, W.cell? (x.add (j * 4 + 3)) = some (.int .u64 (y)) ∧ 0 ≤ y ∧ y ≤ 18446744073709551615 := fun j hj => by
        obtain ⟨v, y, h1, h2⟩ := he j hj 3 _ rfl
        obtain ⟨n, h3, _, h4⟩ := DataW.trod_int Try.underlying25 h2
        simp only [List.cons.injEq, and_true] at h3
        subst h3
        exact ⟨n, h1, (span_u64 h4).1, (span_u64 h4).2⟩
      obtain ⟨Y3, hY3⟩ := choose_lt e3
      exact ⟨Y0, Y1, Y2, Y3, fun j hj => ⟨x, rfl, hY0 j hj, hY1 j hj, hY2 j hj, hY3 j hj⟩, hl, hm⟩
  clear hA0 hval0 hsz0 hsz
  refine (Hand.Writes_any A0 len0 cap0 (fun j => ⟨V0_0 j, V0_1 j, V0_2 j, V0_3 j⟩) W (fun j hj => by obtain ⟨ad, e, c0, c1, c2, c3⟩ := F0 j hj; exact ⟨⟨c2.2.1, c2.2.2, c3.2.1, c3.2.2⟩, ad, e, c0.1, c1.1, c2.1, c3.1⟩)).mono fun e W' ⟨he, bel⟩ => ?_
  subst he
  exact ⟨_, rfl, _, _, _, [], _, [], hW', trodAll_mk1 (shut_bool Try.underlying4 _), (trodAll_cons_mk (Below.trod laidOut (by kernel_rfl) (of_decide_eq_true (by kernel_rfl)) k0 bel lt0) trodAll_mk0), rfl, bel.frame _, fun h => by cases h⟩
theorem over : Rows.bitsWritesRow.holds Try.pinned (OpenSpec.ofChange Rows.bitsWritesSpec) :=
  OpenClaim.holds_of_wide 5 Try.f5 rfl rfl rfl rfl rfl rfl rfl ⟨rfl, rfl, rfl, rfl, rfl⟩ rfl rfl rfl rfl rfl (by kernel_rfl) Try.func5 (by kernel_rfl)
    (of_decide_eq_true (by kernel_rfl)) (by unfold Func.isWrapper; first | (rw [if_pos (by decide +kernel)]; kernel_rfl) | (rw [if_neg (by decide +kernel)]; exact ⟨rfl, rfl⟩))
    (fun os started H enc _ => lifted os started H enc)
theorem proved : Rows.BitsWritesSaid := over
#print axioms proved
end Go.Proofs.Ytlgkaegcocfhdaa.bitsWrites
namespace Go.Proofs.Ytlgkaegcocfhdaa
/-- The row, under a short name, for the claim. -/
theorem bitsWrites_holds : Rows.BitsWritesSaid := bitsWrites.proved
end Go.Proofs.Ytlgkaegcocfhdaa
