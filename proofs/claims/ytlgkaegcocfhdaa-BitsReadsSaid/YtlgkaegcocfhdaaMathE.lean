/- Plain words of layer 1: the reference's reader gives what the reader gives, the second part. -/
import Derived.Test.YtlgkaegcocfhdaaMathD
namespace Go.Proofs.Ytlgkaegcocfhdaa.Hand
open Go.RowKit Go.Proofs.Ytlgkaegcocfhdaa.Q Go.Proofs.YtlgkaegcocfhdaaW.PrintWords Go.Proofs.YtlgkaegcocfhdaaW.PrintLast Go.Proofs.YtlgkaegcocfhdaaW.PrintMore
set_option linter.unusedVariables false
set_option linter.unusedSimpArgs false

theorem wrap64_mod (x : Int) : ∃ q, wrap64 x = x + q * 18446744073709551616 ∧ -9223372036854775808 ≤ wrap64 x ∧ wrap64 x ≤ 9223372036854775807 := by
  refine ⟨(wrap64 x - x) / 18446744073709551616, ?_, ?_, ?_⟩ <;> unfold wrap64 <;> omega
theorem sign_neg (n X : Nat) (h1 : X ≤ n) (h2 : n < 2 * X) (hX : X ≤ 4611686018427387904) : wrap64 (wrap64 (n : Int) - IntKind.i64.wrap (1 * ((2 * X : Nat) : Int))) = (n : Int) - ((2 * X : Nat) : Int) := by
  rw [i64_w, wrap_id (n : Int) (by omega) (by omega)]
  unfold wrap64
  omega
theorem rsigned (s : ByteArray) (hs : s.size ≤ 281474976710656) (p : Nat) (hp : p ≤ 8 * s.size) (k : Int) (hk : k ≤ 64) : Ev (fun n => lacquerref01_R_Signed.f n s (p : Int) k) ((signedR s p k).1, (signedR s p k).2.1, s, ((signedR s p k).2.2 : Int)) := by
  unfold lacquerref01_R_Signed.f
  by_cases h1 : k < 1
  · have he : signedR s p k = (0, 11, p) := by unfold signedR; rw [if_pos h1]
    simp only [h1, if_true, he]
    exact Ev.now _
  · simp only [h1, if_false]
    refine Ev.bind (rget s hs p hp k) ?_
    by_cases h0 : (getR s p k).2.1 = 0
    · obtain ⟨k0, k1, hg⟩ := getR_ok s p k h0
      have he : signedR s p k = (signOf (getR s p k).1 k.toNat, 0, (getR s p k).2.2) := by unfold signedR; rw [if_neg h1, if_pos h0]
      rw [he, hg]
      simp only [if_true]
      obtain ⟨K, rfl⟩ : ∃ K : Nat, k = (K : Int) := ⟨k.toNat, by omega⟩
      rw [Int.toNat_natCast]
      have hlt := numAt_lt s p K
      generalize numAt s p K = n at hlt ⊢
      by_cases h64 : K < 64
      · obtain ⟨X, hX⟩ : ∃ X, 2 ^ (K - 1) = X := ⟨_, rfl⟩
        have h2 : 2 ^ K = 2 * X := by
          rw [← hX, ← Nat.pow_succ']
          congr 1
          omega
        have hX1 : X ≤ 2 ^ 62 := by rw [← hX]; exact Nat.pow_le_pow_right (by decide) (by omega)
        have hX0 : 0 < X := by rw [← hX]; exact Nat.two_pow_pos _
        rw [h2] at hlt
        have e1 : IntKind.u64.wrap (wrap64 ((K : Int) - 1)) = ((K - 1 : Nat) : Int) := by rw [wrap_id _ (by omega) (by omega), u64_wrap]; omega
        have e2 : shr .u64 (n : Int) ((K - 1 : Nat) : Int) = ((n / X : Nat) : Int) := by
          unfold shr
          rw [Int.toNat_natCast, Nat.min_eq_left (by simp [IntKind.bits]; omega), ← hX]
          simp
        have e3 : IntKind.u64.wrap (K : Int) = (K : Int) := by rw [u64_wrap]; omega
        have e4 : shl .i64 1 (K : Int) = IntKind.i64.wrap (1 * ((2 * X : Nat) : Int)) := by
          unfold shl
          rw [Int.toNat_natCast, Nat.min_eq_left (by simp [IntKind.bits]; omega)]
          have : (2 : Int) ^ K = ((2 ^ K : Nat) : Int) := (Int.natCast_pow 2 K).symm
          rw [this, h2]
        have hso : signOf n K = if n < X then (n : Int) else (n : Int) - ((2 * X : Nat) : Int) := by
          unfold signOf
          have : (2 : Int) ^ K = ((2 ^ K : Nat) : Int) := (Int.natCast_pow 2 K).symm
          rw [this, hX, h2]
        simp only [show ((K : Int) < 64) by omega, if_true, e1, show (0 : Int) ≤ ((K - 1 : Nat) : Int) by omega, e2, e3, show (0 : Int) ≤ (K : Int) by omega, e4, hso]
        by_cases hn : n < X
        · have : n / X = 0 := Nat.div_eq_of_lt hn
          simp only [this, show ¬ (((0 : Nat) : Int) = 1) by decide, if_false, hn, if_true]
          rw [wrap_id (n : Int) (by omega) (by omega)]
          exact Ev.now _
        · have : n / X = 1 := by
            rw [Nat.div_eq_iff hX0]
            omega
          simp only [this, show (((1 : Nat) : Int) = 1) from rfl, if_true, hn, if_false]
          rw [sign_neg n X (by omega) hlt (by omega)]
          exact Ev.now _
      · obtain rfl : K = 64 := by omega
        simp only [show ¬ (((64 : Nat) : Int) < 64) by decide, if_false]
        have hso : signOf n 64 = wrap64 (n : Int) := by
          unfold signOf wrap64
          have e1 : (2 : Nat) ^ (64 - 1) = 9223372036854775808 := by decide
          have e2 : (2 : Int) ^ 64 = 18446744073709551616 := by decide
          have e3 : (2 : Nat) ^ 64 = 18446744073709551616 := by decide
          rw [e3] at hlt
          rw [e1, e2]
          split <;> omega
        rw [hso]
        exact Ev.now _
    · obtain ⟨e1, e2⟩ := getR_err s p k h0
      have he : signedR s p k = (0, (getR s p k).2.1, p) := by unfold signedR; rw [if_neg h1, if_neg h0]
      rw [he, e1]
      simp only [h0, if_false]
      exact Ev.now _
theorem runfold (u : Nat) (hu : u < 9223372036854775808) : lacquerref01_Unfold.f (u : Int) = some (unfoldN u) := by
  unfold lacquerref01_Unfold.f unfoldN
  rw [and_mask_u64 1 (by decide) (u : Int) 1 (by omega) (by omega) rfl, show (2 : Int) ^ 1 = 2 from rfl]
  by_cases h : u % 2 = 0
  · rw [if_pos (by omega), if_pos h, wrap_id _ (by omega) (by omega)]
    congr 1
  · rw [if_neg (by omega), if_neg h, wrap_id ((u : Int) / 2) (by omega) (by omega), wrap_id (-((u : Int) / 2)) (by omega) (by omega), wrap_id _ (by omega) (by omega)]
    congr 1
theorem rrice (s : ByteArray) (hs : s.size ≤ 281474976710656) (p : Nat) (hp : p ≤ 8 * s.size) (k : Int) : Ev (fun n => lacquerref01_R_Rice.f n s (p : Int) k) ((riceR s p k).1, (riceR s p k).2.1, s, ((riceR s p k).2.2 : Int)) := by
  unfold lacquerref01_R_Rice.f
  by_cases h1 : k < 0
  · have he : riceR s p k = (0, 11, p) := if_pos (.inl h1)
    simp only [h1, if_true, he]
    refine Ev.step (fun n => lacquerref01_R_Rice.j0.eq_2 _ _ _ _ _) ?_
    simp only [if_true]
    exact Ev.now _
  · by_cases h2 : 30 < k
    · have he : riceR s p k = (0, 11, p) := if_pos (.inr h2)
      simp only [h1, if_false, he, show decide (k > 30) = true from decide_eq_true h2]
      refine Ev.step (fun n => lacquerref01_R_Rice.j0.eq_2 _ _ _ _ _) ?_
      simp only [if_true]
      exact Ev.now _
    · have hdef : riceR s p k = if (unaryR s p).2.1 = 0 then (if (getR s (unaryR s p).2.2 k).2.1 = 0 then (unfoldN ((unaryR s p).1 * 2 ^ k.toNat + (getR s (unaryR s p).2.2 k).1), 0, (getR s (unaryR s p).2.2 k).2.2) else (0, (getR s (unaryR s p).2.2 k).2.1, p)) else (0, (unaryR s p).2.1, p) := by
        unfold riceR; rw [if_neg (by omega)]
      obtain ⟨K, rfl⟩ : ∃ K : Nat, k = (K : Int) := ⟨k.toNat, by omega⟩
      rw [Int.toNat_natCast] at hdef
      simp only [h1, if_false, show decide ((K : Int) > 30) = false from decide_eq_false h2]
      refine Ev.step (fun n => lacquerref01_R_Rice.j0.eq_2 _ _ _ _ _) ?_
      simp only [Bool.false_eq_true, if_false]
      refine Ev.bind (runary s hs p hp) ?_
      by_cases hu0 : (unaryR s p).2.1 = 0
      · obtain ⟨q1, q2, q3⟩ := unaryR_ok s p hp hu0
        rw [if_pos hu0] at hdef
        simp only [hu0, if_true]
        generalize (unaryR s p).1 = q at q1 q2 hdef ⊢
        generalize (unaryR s p).2.2 = p1 at q2 q3 hdef ⊢
        refine Ev.bind (rget s hs p1 q3 K) ?_
        by_cases hg0 : (getR s p1 K).2.1 = 0
        · obtain ⟨k0, k1, hgr⟩ := getR_ok s p1 K hg0
          rw [if_pos hg0, hgr] at hdef
          rw [hgr]
          rw [Int.toNat_natCast] at hdef ⊢
          have hlt := numAt_lt s p1 K
          have hdef2 : riceR s p K = (unfoldN (q * 2 ^ K + numAt s p1 K), 0, p1 + K) := hdef
          rw [hdef2]
          clear hdef hdef2 hgr hg0
          generalize numAt s p1 K = l at hlt ⊢
          have hpow : 2 ^ K ≤ 2 ^ 30 := Nat.pow_le_pow_right (by decide) (by omega)
          have hq4 : q * 2 ^ K ≤ 16777216 * 2 ^ 30 := Nat.mul_le_mul q1 hpow
          have e3 : IntKind.u64.wrap (K : Int) = (K : Int) := by rw [u64_wrap]; omega
          have e4 : IntKind.u64.wrap (q : Int) = (q : Int) := by rw [u64_wrap]; omega
          have e5 : IntKind.u64.wrap (shl .u64 (q : Int) (K : Int) + (l : Int)) = ((q * 2 ^ K + l : Nat) : Int) := by
            unfold shl
            rw [Int.toNat_natCast, Nat.min_eq_left (by simp [IntKind.bits]; omega)]
            have : (q : Int) * 2 ^ K = ((q * 2 ^ K : Nat) : Int) := by simp
            rw [this]
            generalize q * 2 ^ K = y at hq4 ⊢
            rw [u64_wrap, u64_wrap]
            omega
          simp only [if_true, e3, e4, e5, show (0 : Int) ≤ (K : Int) by omega, runfold (q * 2 ^ K + l) (by omega), Option.bind_some]
          exact Ev.now _
        · rw [if_neg hg0] at hdef
          rw [hdef]
          simp only [hg0, if_false]
          exact Ev.now _
      · obtain ⟨e1, e2⟩ := unaryR_err s p hu0
        rw [if_neg hu0] at hdef
        rw [hdef, e1]
        simp only [hu0, if_false]
        exact Ev.now _
theorem ralign_loop (s : ByteArray) (hs : s.size ≤ 281474976710656) (p : Nat) (hp : p ≤ 8 * s.size) : ∀ d i : Nat, i + d = (8 - p % 8) % 8 → Ev (fun k => lacquerref01_R_Align.l0 k (decide (numAt s p i = 0)) s ((p + i : Nat) : Int)) ((alignR s p).1, s, ((alignR s p).2 : Int))
  | 0, i, e => by
    refine Ev.step (fun k => lacquerref01_R_Align.l0.eq_2 _ _ _ _) ?_
    have e1 : Int.tmod ((p + i : Nat) : Int) 8 = 0 := by rw [Int.tmod_eq_emod_of_nonneg (by omega)]; omega
    have he : alignR s p = (decide (numAt s p i = 0), p + i) := by unfold alignR; rw [← e, Nat.add_zero]
    simp only [e1, if_true, he]
    exact Ev.now _
  | d + 1, i, e => by
    refine Ev.step (fun k => lacquerref01_R_Align.l0.eq_2 _ _ _ _) ?_
    have e1 : ¬ Int.tmod ((p + i : Nat) : Int) 8 = 0 := by rw [Int.tmod_eq_emod_of_nonneg (by omega)]; omega
    have e2 : wrap64 (((p + i : Nat) : Int) + 1) = ((p + (i + 1) : Nat) : Int) := by rw [wrap_id _ (by omega) (by omega)]; omega
    have hnx := numAt_succ s p i
    have ih := ralign_loop s hs p hp d (i + 1) (by omega)
    by_cases hz : numAt s p i = 0
    · have hb : decide (numAt s p (i + 1) = 0) = ((tb s (p + i)).toNat == 0) := by
        rw [hnx, hz]
        cases tb s (p + i) <;> rfl
      have hb2 : ((((tb s (p + i)).toNat : Nat) : Int) == 0) = ((tb s (p + i)).toNat == 0) := by cases tb s (p + i) <;> rfl
      rw [hb] at ih
      simp only [e1, if_false, hz, decide_true, if_true, rbit s hs _ (p + i) (by omega), Option.bind_some, e2, hb2]
      exact ih
    · have hb : decide (numAt s p (i + 1) = 0) = false := by
        rw [hnx]
        exact decide_eq_false (by omega)
      rw [hb] at ih
      simp only [e1, if_false, hz, decide_false, Bool.false_eq_true, e2]
      exact ih
theorem ralign (s : ByteArray) (hs : s.size ≤ 281474976710656) (p : Nat) (hp : p ≤ 8 * s.size) : Ev (fun k => lacquerref01_R_Align.f k s (p : Int)) ((alignR s p).1, s, ((alignR s p).2 : Int)) := by
  unfold lacquerref01_R_Align.f
  exact ralign_loop s hs p hp ((8 - p % 8) % 8) 0 (by omega)
end Go.Proofs.Ytlgkaegcocfhdaa.Hand
