/- Contracts of layer 1, proved by hand: a reader's Signed, Align, Rice. -/
import Derived.Test.YtlgkaegcocfhdaaHandI
namespace Go.Proofs.Ytlgkaegcocfhdaa.Hand
open Go.RowKit Go.Proofs.YtlgkaegcocfhdaaW.PrintWords Go.Proofs.YtlgkaegcocfhdaaW.PrintLast Go.Proofs.YtlgkaegcocfhdaaW.PrintMore
set_option linter.unusedVariables false
set_option linter.unusedSimpArgs false

theorem sign_shift (n K M : Nat) (hM : K + M = 64) (h1 : 1 ≤ K) (hn : n < 2 ^ K) : wrap64 (IntKind.u64.wrap ((n : Int) * 2 ^ M)) / 2 ^ M = signOf n K := by
  have hp : (2 : Int) ^ M = ((2 ^ M : Nat) : Int) := by simp
  have hk : (2 : Int) ^ K = ((2 ^ K : Nat) : Int) := by simp
  have hpos := Nat.two_pow_pos M
  have e1 : 2 ^ K * 2 ^ M = 18446744073709551616 := by rw [← Nat.pow_add, hM]
  have e2 : 2 ^ (K - 1) * 2 ^ M = 9223372036854775808 := by rw [← Nat.pow_add, show K - 1 + M = 63 by omega]
  have hlt : n * 2 ^ M < 18446744073709551616 := by rw [← e1]; exact Nat.mul_lt_mul_of_pos_right hn hpos
  have ew : IntKind.u64.wrap ((n : Int) * 2 ^ M) = ((n * 2 ^ M : Nat) : Int) := by
    rw [hp, ← Int.natCast_mul, u64_wrap]
    omega
  rw [ew]
  unfold signOf wrap64
  by_cases h : n < 2 ^ (K - 1)
  · have hl2 : n * 2 ^ M < 9223372036854775808 := by rw [← e2]; exact Nat.mul_lt_mul_of_pos_right h hpos
    rw [if_pos h, show (((n * 2 ^ M : Nat) : Int) + 9223372036854775808) % 18446744073709551616 - 9223372036854775808 = ((n * 2 ^ M : Nat) : Int) by omega, hp, ← Int.natCast_ediv, Nat.mul_div_cancel _ hpos]
  · have hl2 : 9223372036854775808 ≤ n * 2 ^ M := by rw [← e2]; exact Nat.mul_le_mul_right _ (by omega)
    rw [if_neg h, show (((n * 2 ^ M : Nat) : Int) + 9223372036854775808) % 18446744073709551616 - 9223372036854775808 = ((n * 2 ^ M : Nat) : Int) - ((2 ^ K * 2 ^ M : Nat) : Int) by omega, hp, hk, Int.natCast_mul, Int.natCast_mul, ← Int.sub_mul, Int.mul_ediv_cancel _ (by omega)]
/-- What a reader's Signed gives. -/
def signedR (s : ByteArray) (p : Nat) (k : Int) : Int × Int × Nat :=
  if k < 1 then (0, 11, p) else if (getR s p k).2.1 = 0 then (signOf (getR s p k).1 k.toNat, 0, (getR s p k).2.2) else (0, (getR s p k).2.1, p)
theorem getR_err (s : ByteArray) (p : Nat) (k : Int) (h : ¬ (getR s p k).2.1 = 0) : (getR s p k).2.2 = p ∧ (getR s p k).1 = 0 := by
  unfold getR at h ⊢
  split
  · exact ⟨rfl, rfl⟩
  · split
    · exact ⟨rfl, rfl⟩
    · rename_i h1 h2
      rw [if_neg h1, if_neg h2] at h
      exact absurd rfl h
theorem getR_ok (s : ByteArray) (p : Nat) (k : Int) (h : (getR s p k).2.1 = 0) : 0 ≤ k ∧ k ≤ 64 ∧ getR s p k = (numAt s p k.toNat, 0, p + k.toNat) := by
  unfold getR at h ⊢
  by_cases h1 : k < 0 ∨ 64 < k
  · rw [if_pos h1] at h; cases h
  · rw [if_neg h1] at h ⊢
    by_cases h2 : ((8 * s.size - p : Nat) : Int) < k
    · rw [if_pos h2] at h; cases h
    · rw [if_neg h2]
      exact ⟨by omega, by omega, rfl⟩
set_option maxHeartbeats 1000000 in
theorem SignedR_nil (k : Int) (w : World) : Calls Try.prog 17 #[.pointer none, .int .i64 k] w fun e w' => e = .returned (.tuple #[.int .i64 0, .int .i64 1]) ∧ Drawn0 w w' := by
  have hup := Try.underlying36
  go_enter Try.func17, Try.ntmps17
  go_wp2_with fail
  refine (Get_nil k _).mono ?_
  rintro e w1 ⟨rfl, hd⟩
  have HD := Aside0.mk hd
  clear hd
  go_wp2
  go_ret2
  exact ⟨rfl, HD.out⟩
set_option maxHeartbeats 2000000 in
set_option maxRecDepth 100000 in
theorem SignedR_any (s : ByteArray) (hs : s.size ≤ 281474976710656) (p : Nat) (hp : p ≤ 8 * s.size) (k : Int) (B g : Nat) (hB : B ≤ g) (w : World) (h : RAt w g s p) :
    Calls Try.prog 17 #[.pointer (some ⟨g, 0, none⟩), .int .i64 k] w fun e w' => e = .returned (.tuple #[.int .i64 (signedR s p k).1, .int .i64 (signedR s p k).2.1]) ∧ RAt w' g s (signedR s p k).2.2 ∧ Turned B g w w' := by
  have hup := Try.underlying36
  have HR := Aside0.mk h
  clear h
  by_cases h1 : k < 1
  · have he : signedR s p k = (0, 11, p) := if_pos h1
    rw [he]
    clear he
    go_enter Try.func17, Try.ntmps17
    go_wp2
    go_ret2
    exact ⟨rfl, HR.out, Turned.refl _ _ _⟩
  · have HG := Aside0.mk (Get_any s hs p hp k B g hB w HR.out)
    by_cases h0 : (getR s p k).2.1 = 0
    · have he : signedR s p k = (signOf (getR s p k).1 k.toNat, 0, (getR s p k).2.2) := by unfold signedR; rw [if_neg h1, if_pos h0]
      obtain ⟨k0, k1, hg⟩ := getR_ok s p k h0
      rw [he]
      rw [hg] at HG ⊢
      have hlt := numAt_lt s p k.toNat
      obtain ⟨K, rfl⟩ : ∃ K : Nat, k = (K : Int) := ⟨k.toNat, by omega⟩
      obtain ⟨M, hM⟩ : ∃ M, K + M = 64 := ⟨64 - K, by omega⟩
      rw [Int.toNat_natCast] at hlt HG ⊢
      have hsg := sign_shift (numAt s p K) K M hM (by omega) hlt
      generalize numAt s p K = n at hlt hsg HG ⊢
      generalize signOf n K = r at hsg ⊢
      have eM : (64 : Int) - (K : Int) = (M : Int) := by omega
      have m0 : (0 : Int) ≤ (M : Int) := by omega
      have m1 : (M : Int) < 64 := by omega
      clear he hg h0 hlt hM
      go_enter Try.func17, Try.ntmps17
      go_wp2_with fail
      refine HG.out.mono ?_
      rintro e w1 ⟨rfl, hr, ht⟩
      have HR1 := Aside0.mk hr
      have HT1 := Aside0.mk ht
      clear hr ht
      go_wp2
      go_ret2
      exact ⟨rfl, HR1.out, HT1.out⟩
    · have he : signedR s p k = (0, (getR s p k).2.1, p) := by unfold signedR; rw [if_neg h1, if_neg h0]
      rw [he]
      obtain ⟨e1, e2⟩ := getR_err s p k h0
      rw [e1, e2] at HG
      generalize (getR s p k).2.1 = er at HG h0 ⊢
      clear he e1 e2
      have hb : (er == 0) = false := by simpa using h0
      have hb2 : (er != 0) = true := by simpa using h0
      go_enter Try.func17, Try.ntmps17
      go_wp2_with fail
      refine HG.out.mono ?_
      rintro e w1 ⟨rfl, hr, ht⟩
      have HR1 := Aside0.mk hr
      have HT1 := Aside0.mk ht
      clear hr ht
      go_wp2
      go_ret2
      exact ⟨rfl, HR1.out, HT1.out⟩
/-- What a reader's Align gives. -/
def alignR (s : ByteArray) (p : Nat) : Bool × Nat := (decide (numAt s p ((8 - p % 8) % 8) = 0), p + (8 - p % 8) % 8)
set_option maxHeartbeats 1000000 in
theorem AlignR_nil (w : World) : Calls Try.prog 23 #[.pointer none] w fun e w' => e = .returned (.tuple #[.bool false, .int .i64 1]) ∧ Drawn0 w w' := by
  have hup := Try.underlying36
  go_enter Try.func23, Try.ntmps23
  go_wp2
  go_ret2
  exact ⟨rfl, Drawn0.refl _⟩
set_option maxHeartbeats 2000000 in
set_option maxRecDepth 100000 in
theorem AlignR_any (s : ByteArray) (hs : s.size ≤ 281474976710656) (p : Nat) (hp : p ≤ 8 * s.size) (B g : Nat) (hB : B ≤ g) (w : World) (h : RAt w g s p) :
    Calls Try.prog 23 #[.pointer (some ⟨g, 0, none⟩)] w fun e w' => e = .returned (.tuple #[.bool (alignR s p).1, .int .i64 0]) ∧ RAt w' g s (alignR s p).2 ∧ Turned B g w w' := by
  have hup := Try.underlying36
  have HR := Aside0.mk h
  have c0 := h.place
  clear h
  obtain ⟨r, hr⟩ : ∃ r, p % 8 = r := ⟨_, rfl⟩
  obtain ⟨K, hK⟩ : ∃ K, (8 - r) % 8 = K := ⟨_, rfl⟩
  have hg : getR s p K = (numAt s p K, 0, p + K) := by
    unfold getR
    rw [if_neg (by omega), if_neg (by omega), Int.toNat_natCast]
  have HG := Aside0.mk (Get_any s hs p hp K B g hB w HR.out)
  rw [hg] at HG
  have ha : alignR s p = (decide (numAt s p K = 0), p + K) := by unfold alignR; rw [hr, hK]
  rw [ha]
  have e1 : (p : Int).tmod 8 = (r : Int) := by rw [Int.tmod_eq_emod_of_nonneg (by omega)]; omega
  have e1b : (p : Int) % 8 = (r : Int) := by omega
  have e2 : (8 - (r : Int)) % 8 = (K : Int) := by omega
  have e3 : (8 - (r : Int)).tmod 8 = (K : Int) := by rw [Int.tmod_eq_emod_of_nonneg (by omega)]; omega
  have r0 : (0 : Int) ≤ (r : Int) := by omega
  have r1 : (r : Int) < 8 := by omega
  clear hg ha hr hK
  generalize numAt s p K = n at HG ⊢
  go_enter Try.func23, Try.ntmps23
  go_wp2_with fail
  refine (at_any g _ _ c0).mono ?_
  rintro e w2 ⟨rfl, rfl⟩
  go_wp2_with fail
  refine HG.out.mono ?_
  rintro e w1 ⟨rfl, hr, ht⟩
  have HR1 := Aside0.mk hr
  have HT1 := Aside0.mk ht
  clear hr ht
  go_wp2
  go_ret2
  refine ⟨?_, HR1.out, HT1.out⟩
  by_cases hn : n = 0
  · subst hn; rfl
  · simp [hn]
end Go.Proofs.Ytlgkaegcocfhdaa.Hand
