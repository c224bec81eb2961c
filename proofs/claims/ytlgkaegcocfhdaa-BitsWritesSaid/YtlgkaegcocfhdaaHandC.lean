/- Contracts of layer 1, proved by hand: a writer's Put, Signed, Align. -/
import Derived.Test.YtlgkaegcocfhdaaHandB
namespace Go.Proofs.Ytlgkaegcocfhdaa.Hand
open Go.RowKit Go.Proofs.YtlgkaegcocfhdaaW.PrintWords Go.Proofs.YtlgkaegcocfhdaaW.PrintLast Go.Proofs.YtlgkaegcocfhdaaW.PrintMore
set_option linter.unusedVariables false
set_option linter.unusedSimpArgs false

def putP (u : Nat) (k : Int) : Prop := 0 ≤ k ∧ k ≤ 64 ∧ u < 2 ^ k.toNat
instance (u : Nat) (k : Int) : Decidable (putP u k) := by unfold putP; infer_instance
set_option maxHeartbeats 4000000 in
set_option maxRecDepth 100000 in
theorem Put_no (u : Nat) (hu : u < 18446744073709551616) (k : Int) (g : Nat) (w : World) (h : ¬ putP u k) :
    Calls Try.prog 31 #[.pointer (some ⟨g, 0, none⟩), .int .u64 u, .int .i64 k] w fun e w' => e = .returned (.int .i64 11) ∧ w = w' := by
  have hup := Try.underlying22
  by_cases h1 : k < 0
  · clear h
    go_enter Try.func31, Try.ntmps31
    go_wp2
    go_ret
    exact ⟨rfl, rfl⟩
  · by_cases h2 : 64 < k
    · clear h
      go_enter Try.func31, Try.ntmps31
      go_wp2
      go_ret
      exact ⟨rfl, rfl⟩
    · obtain ⟨K, rfl⟩ : ∃ K : Nat, k = (K : Int) := ⟨k.toNat, by omega⟩
      have hK : K < 64 := by
        rcases Nat.lt_or_ge K 64 with h3 | h3
        · exact h3
        · have : K = 64 := by omega
          subst this
          exact absurd ⟨by omega, by omega, by simpa using hu⟩ h
      have hle : 2 ^ K ≤ u := by
        rcases Nat.lt_or_ge u (2 ^ K) with h3 | h3
        · exact absurd ⟨by omega, by omega, by simpa using h3⟩ h
        · exact h3
      have hp : (2 : Int) ^ K = ((2 ^ K : Nat) : Int) := by simp
      obtain ⟨p, hpp⟩ : ∃ p : Nat, 2 ^ K = p := ⟨_, rfl⟩
      rw [hpp] at hp hle
      have hw : IntKind.u64.wrap (2 ^ K) = (p : Int) := by rw [u64_wrap, hp]; omega
      have hle2 : (p : Int) ≤ (u : Int) := by omega
      have k1 : (0 : Int) ≤ (K : Int) := by omega
      have k2 : (K : Int) < 64 := by omega
      clear h hp hpp h1 h2
      go_enter Try.func31, Try.ntmps31
      go_wp2
      go_ret
      exact ⟨rfl, rfl⟩
set_option maxHeartbeats 4000000 in
set_option maxRecDepth 100000 in
theorem Put_nil (u : Int) (k : Int) (w : World) : Calls Try.prog 31 #[.pointer none, .int .u64 u, .int .i64 k] w fun e w' => e = .returned (.int .i64 1) ∧ w = w' := by
  have hup := Try.underlying22
  go_enter Try.func31, Try.ntmps31
  go_wp2
  go_ret
  exact ⟨rfl, rfl⟩
set_option maxHeartbeats 4000000 in
set_option maxRecDepth 100000 in
theorem Put_yes (u K : Nat) (hu : u < 18446744073709551616) (hK : K ≤ 64) (huk : u < 2 ^ K) (bs : List Bool) (B g : Nat) (v : Value) (w : World) (h : WAt w B g v bs) (hl : bs.length + 64 < 1125899906842624) :
    Calls Try.prog 31 #[.pointer (some ⟨g, 0, none⟩), .int .u64 u, .int .i64 K] w fun e w' => e = .returned (.int .i64 0) ∧ ∃ v', WAt w' B g v' (bs ++ nbits u K) ∧ Moved B g w v w' v' := by
  have hup := Try.underlying22
  have HCT := Aside0.mk (lay_any u K bs hu hK B g v w h hl)
  have k1 : (0 : Int) ≤ (K : Int) := by omega
  have k2 : (K : Int) ≤ 64 := by omega
  clear h
  by_cases h64 : K = 64
  · subst h64
    go_enter Try.func31, Try.ntmps31
    go_wp2_with fail
    refine HCT.out.mono ?_
    rintro e w2 ⟨rfl, v2, hE, hM⟩
    have HE := Aside0.mk hE
    have HM := Aside0.mk hM
    clear hE hM
    go_wp2
    go_ret
    exact ⟨rfl, v2, HE.out, HM.out⟩
  · have hp : (2 : Int) ^ K = ((2 ^ K : Nat) : Int) := by simp
    have hle : 2 ^ K < 2 ^ 64 := Nat.pow_lt_pow_right (by decide) (by omega)
    obtain ⟨p, hpp⟩ : ∃ p : Nat, 2 ^ K = p := ⟨_, rfl⟩
    rw [hpp] at hp hle huk
    have hw : IntKind.u64.wrap (2 ^ K) = (p : Int) := by rw [u64_wrap, hp]; omega
    have hle2 : (u : Int) < (p : Int) := by omega
    have k3 : (K : Int) < 64 := by omega
    clear hp hpp hle huk
    go_enter Try.func31, Try.ntmps31
    go_wp2_with fail
    refine HCT.out.mono ?_
    rintro e w2 ⟨rfl, v2, hE, hM⟩
    have HE := Aside0.mk hE
    have HM := Aside0.mk hM
    clear hE hM
    go_wp2
    go_ret
    exact ⟨rfl, v2, HE.out, HM.out⟩
/-- A number of either sign has so many bits. -/
def fitsP (n k : Int) : Prop := 1 ≤ k ∧ k ≤ 64 ∧ -(2 ^ (k - 1).toNat) ≤ n ∧ n < 2 ^ (k - 1).toNat
theorem fits_shift (n : Int) (K : Nat) (h0 : -9223372036854775808 ≤ n) (h1 : n < 9223372036854775808) : (n / 2 ^ K == n / 9223372036854775808) = decide (-(2 ^ K) ≤ n ∧ n < 2 ^ K) := by
  have hp : (0 : Int) < 2 ^ K := Int.pow_pos (by decide)
  have a1 := Int.mul_ediv_self_le (x := n) (k := 2 ^ K) (by omega)
  have a2 := Int.lt_mul_ediv_self_add (x := n) (k := 2 ^ K) hp
  have b : n / 9223372036854775808 = 0 ∧ 0 ≤ n ∨ n / 9223372036854775808 = -1 ∧ n < 0 := by omega
  rcases b with ⟨b, hn⟩ | ⟨b, hn⟩
  · rw [b]
    by_cases h : n < 2 ^ K
    · rw [Int.ediv_eq_zero_of_lt hn h, decide_eq_true ⟨by omega, h⟩]
      rfl
    · rw [decide_eq_false (fun q => h q.2)]
      have : 1 ≤ n / 2 ^ K := by
        rw [Int.le_ediv_iff_mul_le hp]
        omega
      simp
      omega
  · rw [b]
    by_cases h : -(2 ^ K) ≤ n
    · have : n / 2 ^ K = -1 := by
        have c1 : n / 2 ^ K < 0 := Int.ediv_neg_of_neg_of_pos hn hp
        have c2 : -1 ≤ n / 2 ^ K := by
          rw [Int.le_ediv_iff_mul_le hp]
          omega
        omega
      rw [this, decide_eq_true ⟨h, by omega⟩]
      rfl
    · rw [decide_eq_false (fun q => h q.1)]
      have : n / 2 ^ K < -1 := by
        have : n / 2 ^ K < -1 := by
          apply Int.ediv_lt_of_lt_mul hp
          omega
        exact this
      simp
      omega
end Go.Proofs.Ytlgkaegcocfhdaa.Hand
