/- Plain words of layer 19: folds, lengths in bits. -/
import Derived.Test.YtoologbaoifheaaModC
import Derived.Test.YtoologbaoifheaaPickA
namespace Go.Proofs.Ytoologbaoifheaa.Hand
open Go.RowKit Go.Proofs.Ytoologbaoifheaa.Q Go.Proofs.YtoologbaoifheaaW.PrintWords Go.Proofs.YtoologbaoifheaaW.PrintLast Go.Proofs.YtoologbaoifheaaW.PrintMore
set_option linter.unusedVariables false
set_option linter.unusedSimpArgs false

theorem xor0 (x : Int) (h0 : -9223372036854775808 ≤ x) (h1 : x ≤ 9223372036854775807) : Go.bits .xor .i64 x 0 = x := by
  show IntKind.i64.wrap ((BitVec.ofInt 64 x ^^^ BitVec.ofInt 64 0).toNat : Int) = x
  rw [show BitVec.ofInt 64 0 = 0#64 from rfl, BitVec.xor_zero, BitVec.toNat_ofInt, IntKind.wrap_i64]
  omega
theorem xorm (x : Int) (h0 : -9223372036854775808 ≤ x) (h1 : x ≤ 9223372036854775807) : Go.bits .xor .i64 x (-1) = -x - 1 := by
  show IntKind.i64.wrap ((BitVec.ofInt 64 x ^^^ BitVec.ofInt 64 (-1)).toNat : Int) = -x - 1
  rw [show BitVec.ofInt 64 (-1) = BitVec.allOnes 64 by decide, BitVec.xor_allOnes, BitVec.toNat_not, BitVec.toNat_ofInt, IntKind.wrap_i64]
  omega
theorem and1 (x : Int) : Go.bits .and .i64 x 1 = x % 2 := by
  show IntKind.i64.wrap ((BitVec.ofInt 64 x &&& BitVec.ofInt 64 1).toNat : Int) = x % 2
  rw [show BitVec.ofInt 64 1 = 1#64 from rfl, BitVec.toNat_and, BitVec.toNat_ofInt, show (1#64).toNat = 1 from rfl, Nat.and_one_is_mod, IntKind.wrap_i64]
  omega
/-- A number as one from 0 on (as far as 64 bits go), and back. -/
def foldM (n : Int) : Int := if 0 ≤ n then wrap64 (2 * n) else -wrap64 (2 * n) - 1
def unfoldM (n : Int) : Int := if n % 2 = 0 then (n % 18446744073709551616) / 2 else -((n % 18446744073709551616) / 2) - 1
theorem wrap64_in (x : Int) : -9223372036854775808 ≤ wrap64 x ∧ wrap64 x ≤ 9223372036854775807 := by unfold wrap64; omega
theorem foldM_eq (n : Int) (h0 : -9223372036854775808 ≤ n) (h1 : n ≤ 9223372036854775807) : model_Fold.f n = some (foldM n) := by
  unfold model_Fold.f foldM
  have hw := wrap64_in (n * 2)
  by_cases h : 0 ≤ n
  · rw [if_pos h, show n / 9223372036854775808 = 0 by omega, xor0 _ hw.1 hw.2, Int.mul_comm]
  · rw [if_neg h, show n / 9223372036854775808 = -1 by omega, xorm _ hw.1 hw.2, Int.mul_comm]
theorem unfoldM_eq (n : Int) (h0 : -9223372036854775808 ≤ n) (h1 : n ≤ 9223372036854775807) : model_Unfold.f n = some (unfoldM n) := by
  unfold model_Unfold.f unfoldM
  rw [and1, u64_wrap]
  have e1 : wrap64 (n % 18446744073709551616 / 2) = n % 18446744073709551616 / 2 := by unfold wrap64; omega
  rw [e1]
  rcases (by omega : n % 2 = 0 ∨ n % 2 = 1) with h | h
  · rw [h, if_pos rfl, show wrap64 (-0) = 0 by unfold wrap64; omega, xor0 _ (by omega) (by omega)]
  · rw [h, if_neg (by decide), show wrap64 (-1) = -1 by unfold wrap64; omega, xorm _ (by omega) (by omega)]
theorem rfoldM_eq (n : Int) (h0 : -9223372036854775808 ≤ n) (h1 : n ≤ 9223372036854775807) : lacquerref19_Fold.f n = some (foldM n) := by
  unfold lacquerref19_Fold.f foldM
  by_cases h : 0 ≤ n
  · rw [if_pos h, if_pos h, Int.mul_comm]
  · rw [if_neg h, if_neg h]
    congr 1
    unfold wrap64
    omega
theorem fold_back (n : Int) (h0 : -9223372036854775808 ≤ n) (h1 : n ≤ 9223372036854775807) : unfoldM (foldM n) = n ∧ foldM (unfoldM n) = n := by
  unfold foldM unfoldM wrap64
  constructor
  · split <;> split <;> omega
  · split <;> split <;> omega
def blenF : Nat → Nat → Nat
  | 0, _ => 0
  | k + 1, u => if u = 0 then 0 else blenF k (u / 2) + 1
/-- How many bits. -/
def blen (u : Nat) : Nat := blenF 64 u
theorem blenF_up : ∀ (k u : Nat), u < 2 ^ k → blenF (k + 1) u = blenF k u
  | 0, u, h => by
    have : u = 0 := by simpa using h
    subst this
    rfl
  | k + 1, u, h => by
    unfold blenF
    by_cases h0 : u = 0
    · rw [if_pos h0, if_pos h0]
    · rw [if_neg h0, if_neg h0]
      congr 1
      exact blenF_up k (u / 2) (by rw [Nat.pow_succ] at h; omega)
theorem blenF_ge (u k : Nat) (h : u < 2 ^ k) : ∀ j, blenF (k + j) u = blenF k u
  | 0 => rfl
  | j + 1 => by
    rw [← Nat.add_assoc, blenF_up (k + j) u (Nat.lt_of_lt_of_le h (Nat.pow_le_pow_right (by decide) (by omega))), blenF_ge u k h j]
theorem blenF_div : ∀ (m k u : Nat), 2 ^ m ≤ u → blenF (k + m) u = m + blenF k (u / 2 ^ m)
  | 0, k, u, _ => by simp
  | m + 1, k, u, h => by
    have h0 : u ≠ 0 := by
      have := Nat.pow_pos (n := m + 1) (by decide : 0 < 2)
      omega
    rw [← Nat.add_assoc]
    show (if u = 0 then 0 else blenF (k + m) (u / 2) + 1) = _
    rw [if_neg h0, blenF_div m k (u / 2) (by rw [Nat.pow_succ] at h; omega), Nat.div_div_eq_div_mul, show 2 * 2 ^ m = 2 ^ (m + 1) by rw [Nat.pow_succ, Nat.mul_comm]]
    omega
theorem blen_div (m u : Nat) (hm : m ≤ 56) (h : 2 ^ m ≤ u) (hu : u < 2 ^ 64) : blen u = m + blen (u / 2 ^ m) := by
  unfold blen
  have h1 := blenF_div m (64 - m) u h
  rw [show 64 - m + m = 64 by omega] at h1
  rw [h1]
  have h2 : u / 2 ^ m < 2 ^ (64 - m) := by
    rw [Nat.div_lt_iff_lt_mul (Nat.pow_pos (by decide)), ← Nat.pow_add, show 64 - m + m = 64 by omega]
    exact hu
  have h3 := blenF_ge (u / 2 ^ m) (64 - m) h2 m
  rw [show 64 - m + m = 64 by omega] at h3
  rw [h3]
theorem blen_le (u k : Nat) (h : u < 2 ^ k) : blen u ≤ k := by
  unfold blen
  suffices ∀ (f k u : Nat), u < 2 ^ k → blenF f u ≤ k from this 64 k u h
  intro f
  induction f with
  | zero => intro k u _; exact Nat.zero_le _
  | succ f ih =>
    intro k u h
    unfold blenF
    by_cases h0 : u = 0
    · rw [if_pos h0]; exact Nat.zero_le _
    · rw [if_neg h0]
      cases k with
      | zero => simp at h; omega
      | succ k =>
        have := ih k (u / 2) (by rw [Nat.pow_succ] at h; omega)
        omega
theorem len_form : ∃ T : ByteArray, (∀ v : Nat, v < 256 → bt T (v : Int) = (blen v : Int)) ∧ ∀ (k : Nat) (x0 x2 : Int), bits_Len64.j0 (k + 1) x0 x2 = if x0 ≥ 65536 then (if (x0 / 65536) ≥ 256 then (if 0 ≤ (((x0 / 65536) / 256) % 256) then (if (((x0 / 65536) / 256) % 256) < 256 then (some (wrap64 ((wrap64 ((wrap64 (x2 + 16)) + 8)) + (wrap64 (bt T (((x0 / 65536) / 256) % 256)))))) else (none)) else (none)) else (if 0 ≤ ((x0 / 65536) % 256) then (if ((x0 / 65536) % 256) < 256 then (some (wrap64 ((wrap64 (x2 + 16)) + (wrap64 (bt T ((x0 / 65536) % 256)))))) else (none)) else (none))) else (if x0 ≥ 256 then (if 0 ≤ ((x0 / 256) % 256) then (if ((x0 / 256) % 256) < 256 then (some (wrap64 ((wrap64 (x2 + 8)) + (wrap64 (bt T ((x0 / 256) % 256)))))) else (none)) else (none)) else (if 0 ≤ ((x0) % 256) then (if ((x0) % 256) < 256 then (some (wrap64 (x2 + (wrap64 (bt T ((x0) % 256)))))) else (none)) else (none))) := by
  refine ⟨_, ?_, fun k x0 x2 => bits_Len64.j0.eq_2 x0 x2 k⟩
  decide +kernel
theorem len_low (x : Nat) (hx : x < 4294967296) (b : Int) (b0 : 0 ≤ b) (b1 : b ≤ 32) (k : Nat) : bits_Len64.j0 (k + 1) (x : Int) b = some (b + (blen x : Int)) := by
  obtain ⟨T, hT, hj⟩ := len_form
  rw [hj]
  have hl : ∀ v : Nat, v < 256 → blen v ≤ 8 := fun v hv => blen_le v 8 hv
  by_cases h1 : (x : Int) ≥ 65536
  · rw [if_pos h1]
    by_cases h2 : (x : Int) / 65536 ≥ 256
    · have e : (x : Int) / 65536 / 256 % 256 = ((x / 2 ^ 24 : Nat) : Int) := by omega
      have hv : x / 2 ^ 24 < 256 := by omega
      have h3 := hl _ hv
      rw [if_pos h2, e, if_pos (by omega), if_pos (by omega), hT _ hv, blen_div 24 x (by decide) (by omega) (by omega)]
      generalize blen (x / 2 ^ 24) = q at h3 ⊢
      congr 1
      unfold wrap64
      omega
    · have e : (x : Int) / 65536 % 256 = ((x / 2 ^ 16 : Nat) : Int) := by omega
      have hv : x / 2 ^ 16 < 256 := by omega
      have h3 := hl _ hv
      rw [if_neg h2, e, if_pos (by omega), if_pos (by omega), hT _ hv, blen_div 16 x (by decide) (by omega) (by omega)]
      generalize blen (x / 2 ^ 16) = q at h3 ⊢
      congr 1
      unfold wrap64
      omega
  · rw [if_neg h1]
    by_cases h2 : (x : Int) ≥ 256
    · have e : (x : Int) / 256 % 256 = ((x / 2 ^ 8 : Nat) : Int) := by omega
      have hv : x / 2 ^ 8 < 256 := by omega
      have h3 := hl _ hv
      rw [if_pos h2, e, if_pos (by omega), if_pos (by omega), hT _ hv, blen_div 8 x (by decide) (by omega) (by omega)]
      generalize blen (x / 2 ^ 8) = q at h3 ⊢
      congr 1
      unfold wrap64
      omega
    · have e : (x : Int) % 256 = ((x : Nat) : Int) := by omega
      have hv : x < 256 := by omega
      have h3 := hl _ hv
      rw [if_neg h2, e, if_pos (by omega), if_pos (by omega), hT _ hv]
      generalize blen x = q at h3 ⊢
      congr 1
      unfold wrap64
      omega
theorem len_eq (u : Nat) (hu : u < 18446744073709551616) : bits_Len.f 1 (u : Int) = some (blen u : Int) := by
  unfold bits_Len.f bits_Len64.f
  by_cases h : (u : Int) ≥ 4294967296
  · have e : (u : Int) / 4294967296 = ((u / 2 ^ 32 : Nat) : Int) := by omega
    rw [if_pos h, e, len_low (u / 2 ^ 32) (by omega) 32 (by decide) (by decide) 0, blen_div 32 u (by decide) (by omega) (by omega)]
    simp
  · rw [if_neg h, len_low u (by omega) 0 (by decide) (by decide) 0]
    simp
theorem Fold_any (n : Int) (h0 : -9223372036854775808 ≤ n) (h1 : n ≤ 9223372036854775807) (w : World) : Calls Try.prog 8 #[.int .i64 n] w fun e w' => e = .returned (.int .i64 (foldM n)) ∧ Drawn0 w w' := model_Fold.calls n _ w (foldM_eq n h0 h1)
theorem Unfold_any (n : Int) (h0 : -9223372036854775808 ≤ n) (h1 : n ≤ 9223372036854775807) (w : World) : Calls Try.prog 10 #[.int .i64 n] w fun e w' => e = .returned (.int .i64 (unfoldM n)) ∧ Drawn0 w w' := model_Unfold.calls n _ w (unfoldM_eq n h0 h1)
theorem Len_any (u : Nat) (hu : u < 18446744073709551616) (w : World) : Calls Try.prog 20 #[.int .u64 u] w fun e w' => e = .returned (.int .i64 (blen u)) ∧ Drawn0 w w' := bits_Len.calls 1 u _ w (len_eq u hu)
end Go.Proofs.Ytoologbaoifheaa.Hand
