/- The plain laws of layer 3: whole numbers as 32 bits. -/
import Derived.Test.YtmpkomhcihgphaaMathB
namespace Go.Proofs.Ytmpkomhcihgphaa.Math
open Go.RowKit Go.Proofs.Ytmpkomhcihgphaa
set_option linter.unusedVariables false
set_option linter.unusedSimpArgs false

def int (X : B32) : Int := (X.toNat : Int)
theorem int_lt (X : B32) : 0 ≤ int X ∧ int X < 4294967296 := by
  have := X.isLt
  unfold int
  omega
theorem of_int (X : B32) : BitVec.ofInt 32 (int X) = X := by
  unfold int
  rw [BitVec.ofInt_natCast, BitVec.ofNat_toNat, BitVec.setWidth_eq]
theorem u32_int (X : B32) : IntKind.u32.wrap (X.toNat : Int) = int X := by
  have := X.isLt
  unfold int
  simp [IntKind.wrap, IntKind.bits, IntKind.signed]
  omega
theorem xor32 (X Y : B32) : Go.bits .xor .u32 (int X) (int Y) = int (X ^^^ Y) := by
  have e : Go.bits .xor .u32 (int X) (int Y) = IntKind.u32.wrap ((BitVec.ofInt 32 (int X) ^^^ BitVec.ofInt 32 (int Y)).toNat : Int) := rfl
  rw [e, of_int, of_int, u32_int]
theorem shr32 (X : B32) (k : Nat) : int X / 2 ^ k = int (X >>> k) := by
  unfold int
  rw [BitVec.toNat_ushiftRight, Nat.shiftRight_eq_div_pow, Int.natCast_ediv, Int.natCast_pow]
  rfl
theorem shl32 (X : B32) (k : Nat) : int X * 2 ^ k % 4294967296 = int (X <<< k) := by
  unfold int
  rw [BitVec.toNat_shiftLeft, Nat.shiftLeft_eq]
  rw [Int.natCast_emod, Int.natCast_mul, Int.natCast_pow]
  rfl
theorem bit32 (X : B32) : (Go.bits .and .u32 (int X) 1 == 1) = X.getLsbD 0 := by
  have e : Go.bits .and .u32 (int X) 1 = IntKind.u32.wrap ((BitVec.ofInt 32 (int X) &&& BitVec.ofInt 32 1).toNat : Int) := rfl
  rw [e, of_int, u32_int]
  have e2 : X &&& BitVec.ofInt 32 1 = if X.getLsbD 0 then 1#32 else 0#32 := by
    apply BitVec.eq_of_getLsbD_eq
    intro i h
    have e3 : BitVec.ofInt 32 1 = 1#32 := rfl
    rw [e3, BitVec.getLsbD_and, BitVec.getLsbD_one]
    by_cases hi : i = 0
    · subst hi
      cases X.getLsbD 0 <;> simp
    · cases X.getLsbD 0 <;> simp [hi]
  rw [e2]
  cases X.getLsbD 0 <;> rfl
theorem mod32 (p : Int) : p % 4294967296 = int (BitVec.ofInt 32 p) := by
  unfold int
  rw [BitVec.toNat_ofInt]
  omega
theorem bit_at (X : B32) (k : Nat) : (X >>> k).getLsbD 0 = X.getLsbD k := by rw [BitVec.getLsbD_ushiftRight, Nat.add_zero]
theorem stepH_eq (b : Nat) (p : Int) (X : B32) : Hand.stepH (b : Int) p (int X) = int (bitH b (BitVec.ofInt 32 p) X) := by
  unfold Hand.stepH bitH
  rw [show ((b : Int).toNat) = b from rfl, shr32, bit32, bit_at, show int X * 2 % 4294967296 = int X * 2 ^ 1 % 4294967296 by simp, shl32, mod32 p]
  cases X.getLsbD (b - 1)
  · simp
  · simp [xor32]
theorem stepL_eq (p : Int) (X : B32) : Hand.stepL p (int X) = int (bitL (BitVec.ofInt 32 p) X) := by
  unfold Hand.stepL bitL
  rw [bit32, show int X / 2 = int X / 2 ^ 1 by simp, shr32, mod32 p]
  cases X.getLsbD 0
  · simp
  · simp [xor32]
theorem stepsH_eq (b : Nat) (p : Int) (X : B32) : Hand.stepsH (b : Int) p (int X) 8 = int (it8 (bitH b (BitVec.ofInt 32 p)) X) := by
  simp only [Hand.stepsH, stepH_eq, it8]
theorem stepsL_eq (p : Int) (X : B32) : Hand.stepsL p (int X) 8 = int (it8 (bitL (BitVec.ofInt 32 p)) X) := by
  simp only [Hand.stepsL, stepL_eq, it8]
end Go.Proofs.Ytmpkomhcihgphaa.Math
