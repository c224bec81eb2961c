/- Plain words of layer 1: the bits of a text, and what a reader gives. -/
import Derived.Test.YtlgkaegcocfhdaaMathA
namespace Go.Proofs.Ytlgkaegcocfhdaa.Hand
open Go.RowKit Go.Proofs.YtlgkaegcocfhdaaW.PrintWords
set_option linter.unusedVariables false
set_option linter.unusedSimpArgs false

/-- Bit q of a text; k bits from p on. -/
def tb (s : ByteArray) (q : Nat) : Bool := bitAt (bytesOf s) q
def bitsAt (s : ByteArray) (p k : Nat) : List Bool := (List.range k).map fun i => tb s (p + i)
theorem bitsAt_length (s : ByteArray) (p k : Nat) : (bitsAt s p k).length = k := by simp [bitsAt]
theorem bitsAt_snoc (s : ByteArray) (p k : Nat) : bitsAt s p (k + 1) = bitsAt s p k ++ [tb s (p + k)] := by simp [bitsAt, List.range_succ]
/-- A number of k bits. -/
def numAt (s : ByteArray) (p k : Nat) : Nat := natOf (bitsAt s p k)
theorem numAt_lt (s : ByteArray) (p k : Nat) : numAt s p k < 2 ^ k := natOf_lt k _ (bitsAt_length s p k)
theorem numAt_succ (s : ByteArray) (p k : Nat) : numAt s p (k + 1) = 2 * numAt s p k + (tb s (p + k)).toNat := by
  unfold numAt
  rw [bitsAt_snoc, natOf_snoc]
theorem bytes_get (s : ByteArray) (j : Nat) (h : j < s.size) : (bytesOf s).getD j 0 = ((s[j]'h).toNat : Int) := by
  unfold bytesOf
  rw [List.getD_eq_getElem?_getD, List.getElem?_map]
  have : s.data.toList[j]? = some (s[j]'h) := by
    rw [Array.getElem?_toList]
    exact Array.getElem?_eq_getElem h
  rw [this]
  rfl
theorem low_bit (x : Nat) (hx : x < 18446744073709551616) : Go.bits .and .u64 (x : Int) 1 = ((x.testBit 0).toNat : Int) := by
  have e : Go.bits .and .u64 (x : Int) 1 = IntKind.u64.wrap ((BitVec.ofInt 64 (x : Int) &&& BitVec.ofInt 64 1).toNat : Int) := rfl
  have e1 : (BitVec.ofInt 64 (x : Int)).toNat = x := by rw [BitVec.toNat_ofInt]; omega
  have e2 : (BitVec.ofInt 64 1).toNat = 1 := by decide
  rw [e, BitVec.toNat_and, e1, e2, Nat.and_one_is_mod, Nat.testBit_zero]
  have hm : IntKind.u64.wrap ((x % 2 : Nat) : Int) = ((x % 2 : Nat) : Int) := by
    simp only [IntKind.wrap, IntKind.bits, IntKind.signed]
    simp
    omega
  rw [hm]
  rcases Nat.mod_two_eq_zero_or_one x with h | h <;> simp [h]
theorem or_bit (n : Nat) (b : Bool) (h : 2 * n + 1 < 18446744073709551616) : Go.bits .or .u64 ((n : Int) * 2) (b.toNat : Int) = ((2 * n + b.toNat : Nat) : Int) := by
  have e : Go.bits .or .u64 ((n : Int) * 2) (b.toNat : Int) = IntKind.u64.wrap ((BitVec.ofInt 64 ((n : Int) * 2) ||| BitVec.ofInt 64 (b.toNat : Int)).toNat : Int) := rfl
  have hb : b.toNat < 2 := by cases b <;> decide
  have e1 : (BitVec.ofInt 64 ((n : Int) * 2)).toNat = n <<< 1 := by rw [BitVec.toNat_ofInt, Nat.shiftLeft_eq]; omega
  have e2 : (BitVec.ofInt 64 (b.toNat : Int)).toNat = b.toNat := by rw [BitVec.toNat_ofInt]; omega
  rw [e, BitVec.toNat_or, e1, e2, ← Nat.shiftLeft_add_eq_or_of_lt (by simpa using hb), Nat.shiftLeft_eq]
  have hm : IntKind.u64.wrap ((n * 2 ^ 1 + b.toNat : Nat) : Int) = ((n * 2 ^ 1 + b.toNat : Nat) : Int) := by
    simp only [IntKind.wrap, IntKind.bits, IntKind.signed]
    simp
    omega
  rw [hm]
  congr 1
  omega
theorem peek_bit (s : ByteArray) (q j r : Nat) (hj : j < s.size) (hq : q / 8 = j) (hr : q % 8 = r) : Go.bits .and .u64 (((s[j]'hj).toNat : Int) / 2 ^ (7 - r)) 1 = ((tb s q).toNat : Int) := by
  have hlt : (s[j]'hj).toNat < 256 := (s[j]'hj).toNat_lt
  have e : ((s[j]'hj).toNat : Int) / 2 ^ (7 - r) = (((s[j]'hj).toNat / 2 ^ (7 - r) : Nat) : Int) := by simp
  have hle : (s[j]'hj).toNat / 2 ^ (7 - r) ≤ (s[j]'hj).toNat := Nat.div_le_self _ _
  rw [e, low_bit _ (by omega)]
  unfold tb bitAt
  rw [hq, hr, bytes_get s j hj, Int.toNat_natCast, Nat.testBit_zero, ← Nat.testBit_eq_decide_div_mod_eq]
/-- What Get gives: the number, the error, the place behind it. -/
def getR (s : ByteArray) (p : Nat) (k : Int) : Nat × Int × Nat :=
  if k < 0 ∨ 64 < k then (0, 11, p) else if ((8 * s.size - p : Nat) : Int) < k then (0, 10, p) else (numAt s p k.toNat, 0, p + k.toNat)
theorem getR_lt (s : ByteArray) (p : Nat) (k : Int) : (getR s p k).1 < 18446744073709551616 := by
  unfold getR
  split
  · exact (by decide : (0 : Nat) < 18446744073709551616)
  · split
    · exact (by decide : (0 : Nat) < 18446744073709551616)
    · refine Nat.lt_of_lt_of_le (numAt_lt _ _ _) ?_
      have : k.toNat ≤ 64 := by omega
      exact Nat.pow_le_pow_right (by decide) this
theorem getR_at (s : ByteArray) (p : Nat) (k : Int) (hp : p ≤ 8 * s.size) : (getR s p k).2.2 ≤ 8 * s.size := by
  unfold getR
  split
  · exact hp
  · split
    · exact hp
    · show p + k.toNat ≤ _; omega
/-- How many noughts lie from p on (at most m). -/
def zeros (s : ByteArray) (p : Nat) : Nat → Nat
  | 0 => 0
  | m + 1 => if tb s p then 0 else zeros s (p + 1) m + 1
theorem zeros_le (s : ByteArray) : ∀ (m p : Nat), zeros s p m ≤ m
  | 0, p => Nat.le_refl _
  | m + 1, p => by
    rw [zeros]
    split
    · omega
    · have := zeros_le s m (p + 1); omega
theorem zeros_bit (s : ByteArray) : ∀ (m p i : Nat), i < zeros s p m → tb s (p + i) = false
  | 0, p, i, h => by simp [zeros] at h
  | m + 1, p, i, h => by
    rw [zeros] at h
    by_cases hb : tb s p = true
    · rw [if_pos hb] at h; omega
    · rw [if_neg hb] at h
      cases i with
      | zero => simpa using hb
      | succ i =>
        have := zeros_bit s m (p + 1) i (by omega)
        rw [show p + (i + 1) = p + 1 + i by omega]
        exact this
theorem zeros_end (s : ByteArray) : ∀ (m p : Nat), zeros s p m < m → tb s (p + zeros s p m) = true
  | 0, p, h => by omega
  | m + 1, p, h => by
    rw [zeros] at h ⊢
    by_cases hb : tb s p = true
    · rw [if_pos hb]; exact hb
    · rw [if_neg hb] at h ⊢
      have := zeros_end s m (p + 1) (by omega)
      rw [show p + (zeros s (p + 1) m + 1) = p + 1 + zeros s (p + 1) m by omega]
      exact this
/-- What Unary gives. -/
def unaryR (s : ByteArray) (p : Nat) : Nat × Int × Nat :=
  if 16777216 < zeros s p (8 * s.size - p) then (0, 11, p) else if zeros s p (8 * s.size - p) = 8 * s.size - p then (0, 10, p) else (zeros s p (8 * s.size - p), 0, p + zeros s p (8 * s.size - p) + 1)
/-- A number in the sign's bits: as so many bits, signed. -/
def signOf (n : Nat) (k : Nat) : Int := if n < 2 ^ (k - 1) then (n : Int) else (n : Int) - 2 ^ k
end Go.Proofs.Ytlgkaegcocfhdaa.Hand
