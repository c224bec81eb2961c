/- The plain laws of layer 3: the reference's loops. -/
import Derived.Test.YtmpkomhcihgphaaMathE
namespace Go.Proofs.Ytmpkomhcihgphaa.Math
open Go.RowKit Go.Proofs.Ytmpkomhcihgphaa Go.Proofs.Ytmpkomhcihgphaa.Q Go.Proofs.YtmpkomhcihgphaaW.PrintWords Go.Proofs.YtmpkomhcihgphaaW.PrintLast Go.Proofs.YtmpkomhcihgphaaW.PrintMore
set_option linter.unusedVariables false
set_option linter.unusedSimpArgs false

theorem top_bit (R : B32) (k : Nat) (hk : k < 32) : (Go.bits .and .i64 (int R) (int (BitVec.twoPow 32 k)) = 0) ↔ R.getLsbD k = false := by
  rw [and64, BitVec.and_twoPow]
  cases R.getLsbD k
  · simp [int]
  · have : int (BitVec.twoPow 32 k) ≠ 0 := by
      unfold int
      rw [BitVec.toNat_twoPow]
      have h : (2 : Nat) ^ k < 2 ^ 32 := Nat.pow_lt_pow_right (by decide) hk
      rw [Nat.mod_eq_of_lt h]
      have := Nat.two_pow_pos k
      omega
    simp [this]
theorem next_bits (R M : B32) : Go.bits .and .i64 (wrap64 (int R * 2)) (int M) = int ((R <<< 1) &&& M) := by
  have hR := int_lt R
  rw [wrap_id _ (by omega) (by omega)]
  have e : Go.bits .and .i64 (int R * 2) (int M) = IntKind.i64.wrap ((BitVec.ofInt 64 (int R * 2) &&& BitVec.ofInt 64 (int M)).toNat : Int) := rfl
  rw [e, i64_of _ ((R <<< 1) &&& M)]
  have e2 : BitVec.ofInt 64 (int R * 2) = (R.setWidth 64) <<< 1 := by
    apply BitVec.eq_of_toNat_eq
    rw [BitVec.toNat_ofInt, BitVec.toNat_shiftLeft, BitVec.toNat_setWidth, Nat.shiftLeft_eq]
    have := R.isLt
    unfold int
    omega
  rw [e2, of_int64]
  apply BitVec.eq_of_getLsbD_eq
  intro i h
  simp only [BitVec.getLsbD_and, BitVec.getLsbD_setWidth, BitVec.getLsbD_shiftLeft]
  by_cases h32 : i < 32
  · simp [h32, h, show i - 1 < 64 by omega]
  · simp [h32, BitVec.getLsbD_of_ge M i (by omega)]
theorem bt_bits (s : ByteArray) (i : Nat) (h : i < (bytes s).length) : bt s (i : Int) = int8 (bytes s)[i] := by
  have h2 : i < s.size := by rw [bytes_length] at h; exact h
  rw [← byteAt_bits s i h, ← Hand.byteAt_eq s i h2 |>.symm]
  unfold bt
  simp [h2]
theorem bit_of (y : BitVec 8) (k : Nat) (hk : k < 8) : Go.bits .and .i64 (wrap64 (shr .u8 (int8 y) (k : Int))) 1 = if y.getLsbD k then 1 else 0 := by
  have e1 : shr .u8 (int8 y) (k : Int) = int ((y.setWidth 32) >>> k) := by
    unfold shr
    rw [Nat.min_eq_left (by simp [IntKind.bits]; omega), int8_32]
    exact shr32 _ k
  have hR := int_lt ((y.setWidth 32) >>> k)
  rw [e1, wrap_id _ (by omega) (by omega), show (1 : Int) = int 1#32 from rfl, and64]
  have e2 : y.setWidth 32 >>> k &&& 1#32 = if y.getLsbD k then 1#32 else 0#32 := by
    apply BitVec.eq_of_getLsbD_eq
    intro i h
    rw [BitVec.getLsbD_and, BitVec.getLsbD_one, BitVec.getLsbD_ushiftRight, BitVec.getLsbD_setWidth]
    by_cases hi : i = 0
    · subst hi
      have : k < 32 := by omega
      cases y.getLsbD k <;> simp [this]
    · cases y.getLsbD k <;> simp [hi]
  rw [e2]
  cases y.getLsbD k <;> rfl
end Go.Proofs.Ytmpkomhcihgphaa.Math
