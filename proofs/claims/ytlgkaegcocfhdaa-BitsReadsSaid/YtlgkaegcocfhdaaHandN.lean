/- Contracts of layer 1, proved by hand: BitsNone. -/
import Derived.Test.YtlgkaegcocfhdaaHandL
namespace Go.Proofs.Ytlgkaegcocfhdaa.Hand
open Go.RowKit Go.Proofs.Ytlgkaegcocfhdaa.Q Go.Proofs.YtlgkaegcocfhdaaW.PrintWords Go.Proofs.YtlgkaegcocfhdaaW.PrintLast Go.Proofs.YtlgkaegcocfhdaaW.PrintMore
set_option linter.unusedVariables false
set_option linter.unusedSimpArgs false

theorem Put_nil2 (u : Int) (k : Int) (w : World) : Calls Try.prog 31 #[.pointer none, .int .u64 u, .int .i64 k] w fun e w' => e = .returned (.int .i64 1) ∧ Drawn0 w w' := (Put_nil u k w).mono fun _ _ ⟨h1, h2⟩ => ⟨h1, h2 ▸ Drawn0.refl _⟩
theorem Len_nil2 (w : World) : Calls Try.prog 13 #[.pointer none] w fun e w' => e = .returned (.int .i64 0) ∧ Drawn0 w w' := (Len_nil w).mono fun _ _ ⟨h1, h2⟩ => ⟨h1, h2 ▸ Drawn0.refl _⟩
theorem Bytes_nil2 (w : World) : Calls Try.prog 29 #[.pointer none] w fun e w' => e = .returned (.string ⟨#[]⟩) ∧ Drawn0 w w' := (Bytes_nil w).mono fun _ _ ⟨h1, h2⟩ => ⟨h1, h2 ▸ Drawn0.refl _⟩
set_option maxHeartbeats 4000000 in
set_option maxRecDepth 100000 in
theorem None_any (k wd n u : Int) (w : World) : Calls Try.prog 7 #[.agg #[.int .i64 k, .int .i64 wd, .int .i64 n, .int .u64 u]] w fun e w' => e = .returned (.bool true) ∧ Below w.heap.size w w' := by
  have hup := Try.underlying22
  have hup2 := Try.underlying36
  go_enter Try.func7, Try.ntmps7
  go_wp2_with fail
  refine (Align_nil _).mono ?_
  rintro e w1 ⟨rfl, ⟨m0, rfl⟩⟩
  go_wp2_with fail
  refine (Get_nil _ _).mono ?_
  rintro e w1 ⟨rfl, ⟨m1, rfl⟩⟩
  go_wp2_with fail
  refine (SignedR_nil _ _).mono ?_
  rintro e w1 ⟨rfl, ⟨m2, rfl⟩⟩
  go_wp2_with fail
  refine (UnaryR_nil _).mono ?_
  rintro e w1 ⟨rfl, ⟨m3, rfl⟩⟩
  go_wp2_with fail
  refine (RiceR_nil _ _).mono ?_
  rintro e w1 ⟨rfl, ⟨m4, rfl⟩⟩
  go_wp2_with fail
  refine (AlignR_nil _).mono ?_
  rintro e w1 ⟨rfl, ⟨m5, rfl⟩⟩
  go_wp2_with fail
  refine (Put_nil2 _ _ _).mono ?_
  rintro e w1 ⟨rfl, ⟨m6, rfl⟩⟩
  go_wp2_with fail
  refine (Signed_nil _ _ _).mono ?_
  rintro e w1 ⟨rfl, ⟨m7, rfl⟩⟩
  go_wp2_with fail
  refine (Unary_nil _ _).mono ?_
  rintro e w1 ⟨rfl, ⟨m8, rfl⟩⟩
  go_wp2_with fail
  refine (Rice_nil _ _ _).mono ?_
  rintro e w1 ⟨rfl, ⟨m9, rfl⟩⟩
  go_wp2_with fail
  refine (Len_nil2 _).mono ?_
  rintro e w1 ⟨rfl, ⟨m10, rfl⟩⟩
  go_wp2_with fail
  refine (Bytes_nil2 _).mono ?_
  rintro e w1 ⟨rfl, ⟨m11, rfl⟩⟩
  go_wp2_with fail
  refine (At_nil _).mono ?_
  rintro e w1 ⟨rfl, ⟨m12, rfl⟩⟩
  go_wp2_with fail
  refine (Left_nil _).mono ?_
  rintro e w1 ⟨rfl, ⟨m13, rfl⟩⟩
  go_wp2_with fail
  refine (awake_any _).mono ?_
  rintro e w2 ⟨rfl, hB⟩
  have HB := Aside0.mk hB
  clear hB
  go_wp2
  go_ret
  refine ⟨rfl, ?_⟩
  have h1 := pw_below_drewN (below_alloc (Below.refl w.heap.size w) (.cells #[.int .i64 k, .int .i64 wd, .int .i64 n, .int .u64 u] 27)) (m0 + m1 + m2 + m3 + m4 + m5 + m6 + m7 + m8 + m9 + m10 + m11 + m12 + m13)
  exact h1.trans (HB.out.mono h1.size)
end Go.Proofs.Ytlgkaegcocfhdaa.Hand
