/- PredictBack: for every input the law returns true and each argument reads as it did; over contracts proved by hand. -/
import Derived.Test.YtbbedocehejfgaaRows
import Derived.Test.YtbbedocehejfgaaHandI
import Derived.WalkKit
import Derived.ProofKit
import Derived.OpenShut
import Derived.ShutString
import Derived.ChangeOld
import Derived.Below
import Derived.SizedLaws
import Derived.Deep.Slices
import Derived.Deep.Fields
import Derived.Deep.Strs
import Derived.Lib.SmallJoins
import Derived.ChangeArms
import Derived.Carry
import Derived.Test.YtbbedocehejfgaaWSized
namespace Go.Proofs.Ytbbedocehejfgaa.predictBack
open Go.ChangeShapes Go.WideShapes Go.ChangeAt Go.RowKit Go.Deep
open Go.ChangeMaps (open_string shut_string)
set_option linter.unusedVariables false
theorem own : ownKnob Try.prog.godebug = none := by kernel_rfl
theorem laidOut : laidOutB Try.prog = true := by kernel_rfl
theorem span_i64 {n : Int} (h : (Lit.int .i64 n).wf = true) : -9223372036854775808 ≤ n ∧ n ≤ 9223372036854775807 := by simpa [Lit.wf, IntKind.min, IntKind.max, IntKind.signed, IntKind.bits] using h
theorem open_two {P : Program} {W : World} {r : Reach} {b0 : Nat} {k e : TypeId} {v : Value} (hu : P.underlying k = some (.array 2 e)) (hs : P.cellsOf k = 2) (h : Value.okWide P W r b0 k v) : ∃ c0 c1, v = .agg #[c0, c1] := by
  simp only [Value.okWide, hu] at h
  obtain ⟨cs, h1, h2, _⟩ := h
  rw [hs] at h2
  obtain ⟨l⟩ := cs
  match l, h2 with
  | [c0, c1], _ => exact ⟨c0, c1, h1⟩
theorem trod_two {H : Type} {enc : TypeId × Value → H} {P : Program} {w : World} {base : Nat} {spare : Nat → Bool} {held : Bool} {k e : TypeId} {c0 c1 : Value} {d : DataW H} {q : List MemPlace} (hu : P.underlying k = some (.array 2 e)) (hc : P.cellsOf e = 1) (h : DataW.Trod enc P w base spare held k (.agg #[c0, c1]) d q) :
    ∃ (x0 x1 : DataW H × List MemPlace) (m : Nat), d = .agg [x0.1, x1.1] ∧ q = x0.2 ++ x1.2 ∧ DataW.trod enc P w base spare held m e [c0] = some x0 ∧ DataW.trod enc P w base spare held m e [c1] = some x1 := by
  obtain ⟨fuel, hf⟩ := h
  obtain ⟨xs, m, rfl, hx, _, hl, he⟩ := DataW.trod_array hu hf
  rw [hc] at he
  match xs, hl with
  | [x0, x1], _ =>
    have h0 := he 0 (by omega)
    have h1 := he 1 (by omega)
    simp only [Prod.mk.injEq] at hx
    exact ⟨x0, x1, m, by simpa using hx.1, by simpa using hx.2, by simpa [Value.cells] using h0, by simpa [Value.cells] using h1⟩
theorem open_ints_cell {H : Type} {enc : TypeId × Value → H} {P : Program} {w : World} {base : Nat} {spare : Nat → Bool} {held : Bool} {t e : TypeId} {k : IntKind} {fuel : Nat} {c : Value} {x : DataW H × List MemPlace} (hu : P.underlying t = some (.slice e)) (he : P.underlying e = some (.int k)) (hc : P.cellsOf e = 1) (h : DataW.trod enc P w base spare held fuel t [c] = some x) :
    ∃ (A : Option Addr) (len cap : Nat) (V : Nat → Int), c = .slice A len cap ∧ (∀ j, j < len → ∃ ad, A = some ad ∧ w.cell? (ad.add j) = some (.int k (V j)) ∧ (Lit.int k (V j)).wf = true) ∧ (len ≤ cap ∧ cap ≤ maxLen) ∧ ((x.1 = .nil ∧ len = 0) ∨ ∃ es sp, x.1 = .slice es sp ∧ es.length = len) := by
  rcases open_slice1 hu hc h with ⟨hcs, hx⟩ | ⟨a, l, c', m, n, V, D, Pl, hcs, _, hl, hm, hmm, hx, he2⟩
  · simp only [List.cons.injEq, and_true] at hcs
    subst hcs
    exact ⟨none, 0, 0, fun _ => 0, rfl, fun j hj => absurd hj (by omega), ⟨Nat.le_refl _, by unfold maxLen; omega⟩, .inl ⟨by rw [hx], rfl⟩⟩
  · simp only [List.cons.injEq, and_true] at hcs
    subst hcs
    have hlm : l ≤ m := by rw [hmm]; split <;> omega
    have each : ∀ j, j < l → ∃ y : Int, V j = .int k y ∧ (Lit.int k y).wf = true := fun j hj => by
      obtain ⟨y, h1, _, h3⟩ := DataW.trod_int he (he2 j (by omega)).2
      exact ⟨y, by simpa using h1, h3⟩
    obtain ⟨Y, hY⟩ := choose_lt each
    exact ⟨some a, l, c', Y, rfl, fun j hj => ⟨a, rfl, by rw [(he2 j (by omega)).1, (hY j hj).1], (hY j hj).2⟩, ⟨hl, hm⟩, .inr ⟨_, _, by rw [hx], by simp⟩⟩
theorem sized_cell {H : Type} {P : Program} {ts : List TypeId} {ds : List (DataW H)} {j : Nat} {t e ei : TypeId} {d0 d1 d : DataW H} {len B : Nat} (hsz : (DataW.weightsEach P ts ds).all (· ≤ reachBytes) = true) (ht : ts[j]? = some t) (hd : ds[j]? = some (.agg [d0, d1])) (hu : P.underlying t = some (.array 2 e)) (he : P.underlying e = some (.slice ei)) (hB : P.bytesOf ei = B)
    (hm : d = d0 ∨ d = d1) (h : (d = .nil ∧ len = 0) ∨ ∃ es sp, d = .slice es sp ∧ es.length = len) : len * B ≤ 140737488351232 := by
  rcases h with ⟨_, rfl⟩ | ⟨es, sp, hd2, hl⟩
  · simp
  · have hmem : (es.length + sp.length) * P.bytesOf ei ∈ (DataW.agg [d0, d1]).weights P t := by
      rcases hm with rfl | rfl
      · subst hd2
        simp [DataW.weights, DataW.weightsAll, hu, he]
      · subst hd2
        simp [DataW.weights, DataW.weightsAll, hu, he]
    have := List.all_eq_true.1 hsz _ (DataW.weights_mem_each ht hd _ hmem)
    have h2 : (es.length + sp.length) * P.bytesOf ei ≤ reachBytes := by simpa using this
    rw [hB] at h2
    have h3 : len * B ≤ (es.length + sp.length) * B := Nat.mul_le_mul_right _ (by omega)
    exact Nat.le_trans h3 h2
set_option maxRecDepth 100000 in
theorem lifted (os : Os) (started : os.Started) (H : Type) (enc : TypeId × Value → H) :
    ReturnsInHanded {} Try.checked os 9 .any (Rows.predictBackSpec.pre6 enc Try.prog Try.f9 Rows.predictBackRow.domain false) (Rows.predictBackSpec.post enc Try.prog Try.f9 false true false false) := by
  refine returnsInHanded_of_change_sized (C := Try.checked) own started (by kernel_rfl) Try.func9
    (ChangeSpec.witness6 (enc := enc) (C := Try.checked) false ⟨#[], #[.agg #[.int .i64 0, .int .i64 0], .slice none 0 0, .slice none 0 0], []⟩ 8 (by kernel_rfl) (by kernel_rfl) (by kernel_rfl) (by kernel_rfl)) ?_
  intro W base args ds gs before hval0 hW hcnd hsz0 _
  have hsz : (DataW.weightsEach Try.prog (Try.f9.params.toList ++ Rows.predictBackSpec.plain.varTypes Try.prog) (ds ++ gs)).all (· ≤ reachBytes) = true := hsz0
  have hval : ∀ (j : Nat) t v, Try.f9.params[j]? = some t → args[j]? = some v → Value.okWide Try.prog W .any base t v := hval0
  have hW' := hW
  obtain ⟨p, q, hA0, hV, rfl, hfz, hnd⟩ := hW
  have hA : DataW.TrodAll enc Try.prog W 0 (fun _ => true) true Try.f9.params.toList args.toList ds p := hA0
  rw [Try.params9] at hA hval hsz
  obtain ⟨v0, vs0, d0, ds0, p0, q0, hargs, rfl, rfl, h0, r0⟩ := trodAll_cons hA
  obtain ⟨v1, vs1, d1, ds1, p1, q1, rfl, rfl, rfl, h1, r1⟩ := trodAll_cons r0
  obtain ⟨v2, vs2, d2, ds2, p2, q2, rfl, rfl, rfl, h2, r2⟩ := trodAll_cons r1
  obtain ⟨rfl, rfl, rfl⟩ := trodAll_nil r2
  obtain rfl : args = #[v0, v1, v2] := by cases args; simp_all
  obtain ⟨rfl, rfl⟩ := trodVars_none hV
  have k0 := h0
  have lt0 : ∀ x ∈ p0, x.block < W.heap.size := by obtain ⟨m, hm⟩ := k0; exact DataW.trod_lt m _ _ _ hm
  obtain ⟨c0_0, c0_1, rfl⟩ := open_two Try.underlying48 (by kernel_rfl) (hval 0 48 v0 rfl rfl)
  obtain ⟨x0_0, x0_1, m0, rfl, hp0, g0_0, g0_1⟩ := trod_two Try.underlying48 (by kernel_rfl) h0
  obtain ⟨a0_0, e0_0, -, u0_0⟩ := DataW.trod_int Try.underlying3 g0_0
  simp only [List.cons.injEq, and_true] at e0_0
  subst e0_0
  have h0_0 := span_i64 u0_0
  obtain ⟨a0_1, e0_1, -, u0_1⟩ := DataW.trod_int Try.underlying3 g0_1
  simp only [List.cons.injEq, and_true] at e0_1
  subst e0_1
  have h0_1 := span_i64 u0_1
  obtain ⟨A1, len1, cap1, rfl⟩ := okWide_slice Try.underlying22 (hval 1 22 v1 rfl rfl)
  have k1 := h1
  have lt1 : ∀ x ∈ p1, x.block < W.heap.size := by obtain ⟨m, hm⟩ := k1; exact DataW.trod_lt m _ _ _ hm
  have y1 : len1 * 8 ≤ 140737488351232 := Go.Proofs.YtbbedocehejfgaaW.PrintWords.sized_ints hsz (j := 1) (t := 22) rfl rfl Try.underlying22 Try.underlying3 (by kernel_rfl) (by kernel_rfl) h1
  obtain ⟨V1, F1, lc1⟩ : ∃ V1 : Nat → Int, (∀ j, j < len1 → ∃ ad, A1 = some ad ∧ W.cell? (ad.add j) = some (.int .i64 (V1 j)) ∧ -9223372036854775808 ≤ V1 j ∧ V1 j ≤ 9223372036854775807) ∧ (len1 ≤ cap1 ∧ cap1 ≤ maxLen) := by
    obtain ⟨fuel, hf⟩ := h1
    rcases open_slice1 Try.underlying22 (by kernel_rfl) hf with ⟨hcs, hx⟩ | ⟨x, l, c, m, n, V, D, Pl, hcs, _, hl, hm, hmm, hx, he⟩
    · simp [Value.cells] at hcs
      obtain ⟨rfl, rfl, rfl⟩ := hcs
      exact ⟨fun _ => 0, fun j hj => absurd hj (by omega), Nat.le_refl _, by unfold maxLen; omega⟩
    · simp [Value.cells] at hcs
      obtain ⟨rfl, rfl, rfl⟩ := hcs
      have hlm : len1 ≤ m := by rw [hmm]; split <;> omega
      have each : ∀ j, j < len1 → ∃ y : Int, V j = .int .i64 y ∧ (Lit.int .i64 y).wf = true := fun j hj => by
        obtain ⟨y, h1, _, h3⟩ := DataW.trod_int Try.underlying3 (he j (by omega)).2
        exact ⟨y, by simpa using h1, h3⟩
      obtain ⟨Y, hY⟩ := choose_lt each
      exact ⟨Y, fun j hj => ⟨x, rfl, by rw [(he j (by omega)).1, (hY j hj).1], (span_i64 (hY j hj).2).1, (span_i64 (hY j hj).2).2⟩, hl, hm⟩
  obtain ⟨A2, len2, cap2, rfl⟩ := okWide_slice Try.underlying22 (hval 2 22 v2 rfl rfl)
  have k2 := h2
  have lt2 : ∀ x ∈ p2, x.block < W.heap.size := by obtain ⟨m, hm⟩ := k2; exact DataW.trod_lt m _ _ _ hm
  have y2 : len2 * 8 ≤ 140737488351232 := Go.Proofs.YtbbedocehejfgaaW.PrintWords.sized_ints hsz (j := 2) (t := 22) rfl rfl Try.underlying22 Try.underlying3 (by kernel_rfl) (by kernel_rfl) h2
  obtain ⟨V2, F2, lc2⟩ : ∃ V2 : Nat → Int, (∀ j, j < len2 → ∃ ad, A2 = some ad ∧ W.cell? (ad.add j) = some (.int .i64 (V2 j)) ∧ -9223372036854775808 ≤ V2 j ∧ V2 j ≤ 9223372036854775807) ∧ (len2 ≤ cap2 ∧ cap2 ≤ maxLen) := by
    obtain ⟨fuel, hf⟩ := h2
    rcases open_slice1 Try.underlying22 (by kernel_rfl) hf with ⟨hcs, hx⟩ | ⟨x, l, c, m, n, V, D, Pl, hcs, _, hl, hm, hmm, hx, he⟩
    · simp [Value.cells] at hcs
      obtain ⟨rfl, rfl, rfl⟩ := hcs
      exact ⟨fun _ => 0, fun j hj => absurd hj (by omega), Nat.le_refl _, by unfold maxLen; omega⟩
    · simp [Value.cells] at hcs
      obtain ⟨rfl, rfl, rfl⟩ := hcs
      have hlm : len2 ≤ m := by rw [hmm]; split <;> omega
      have each : ∀ j, j < len2 → ∃ y : Int, V j = .int .i64 y ∧ (Lit.int .i64 y).wf = true := fun j hj => by
        obtain ⟨y, h1, _, h3⟩ := DataW.trod_int Try.underlying3 (he j (by omega)).2
        exact ⟨y, by simpa using h1, h3⟩
      obtain ⟨Y, hY⟩ := choose_lt each
      exact ⟨Y, fun j hj => ⟨x, rfl, by rw [(he j (by omega)).1, (hY j hj).1], (span_i64 (hY j hj).2).1, (span_i64 (hY j hj).2).2⟩, hl, hm⟩
  clear hA0 hval0 hsz0 hsz
  refine (Hand.BackLaw_came a0_0 a0_1 A1 A2 len1 len2 cap1 cap2 V1 V2 W lc1.1 lc2.1 y1 y2 F1 F2).mono fun e W' ⟨he, bel⟩ => ?_
  subst he
  exact ⟨_, rfl, _, _, _, [], _, [], hW', trodAll_mk1 (shut_bool Try.underlying4 _), (trodAll_cons_mk (Below.trod laidOut (by kernel_rfl) (of_decide_eq_true (by kernel_rfl)) k0 bel lt0) (trodAll_cons_mk (Below.trod laidOut (by kernel_rfl) (of_decide_eq_true (by kernel_rfl)) k1 bel lt1) (trodAll_cons_mk (Below.trod laidOut (by kernel_rfl) (of_decide_eq_true (by kernel_rfl)) k2 bel lt2) trodAll_mk0))), rfl, bel.frame _, fun h => by cases h⟩
theorem over : Rows.predictBackRow.holds Try.pinned (OpenSpec.ofChange Rows.predictBackSpec) :=
  OpenClaim.holds_of_wide 9 Try.f9 rfl rfl rfl rfl rfl rfl rfl ⟨rfl, rfl, rfl, rfl, rfl⟩ rfl rfl rfl rfl rfl (by kernel_rfl) Try.func9 (by kernel_rfl)
    (of_decide_eq_true (by kernel_rfl)) (by unfold Func.isWrapper; first | (rw [if_pos (by decide +kernel)]; kernel_rfl) | (rw [if_neg (by decide +kernel)]; exact ⟨rfl, rfl⟩))
    (fun os started H enc _ => lifted os started H enc)
theorem proved : Rows.PredictBackSaid := over
#print axioms proved
end Go.Proofs.Ytbbedocehejfgaa.predictBack
namespace Go.Proofs.Ytbbedocehejfgaa
/-- The row, under a short name, for the claim. -/
theorem predictBack_holds : Rows.PredictBackSaid := predictBack.proved
end Go.Proofs.Ytbbedocehejfgaa
