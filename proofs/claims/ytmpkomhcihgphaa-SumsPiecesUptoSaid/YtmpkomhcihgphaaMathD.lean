/- The plain laws of layer 3: the sums as folds over bits. -/
import Derived.Test.YtmpkomhcihgphaaMathC
namespace Go.Proofs.Ytmpkomhcihgphaa.Math
open Go.RowKit Go.Proofs.Ytmpkomhcihgphaa Go.Proofs.YtmpkomhcihgphaaW.PrintWords Go.Proofs.YtmpkomhcihgphaaW.PrintLast Go.Proofs.YtmpkomhcihgphaaW.PrintMore
set_option linter.unusedVariables false
set_option linter.unusedSimpArgs false

def int8 (y : BitVec 8) : Int := (y.toNat : Int)
theorem of_int8 (y : BitVec 8) : BitVec.ofInt 8 (int8 y) = y := by
  unfold int8
  rw [BitVec.ofInt_natCast, BitVec.ofNat_toNat, BitVec.setWidth_eq]
theorem u8_wrap (X : B32) : IntKind.u8.wrap (int X) = int8 (X.setWidth 8) := by
  unfold int int8
  rw [BitVec.toNat_setWidth]
  simp [IntKind.wrap, IntKind.bits, IntKind.signed]
theorem xor8 (x y : BitVec 8) : Go.bits .xor .u8 (int8 x) (int8 y) = int8 (x ^^^ y) := by
  have e : Go.bits .xor .u8 (int8 x) (int8 y) = IntKind.u8.wrap ((BitVec.ofInt 8 (int8 x) ^^^ BitVec.ofInt 8 (int8 y)).toNat : Int) := rfl
  rw [e, of_int8, of_int8]
  generalize x ^^^ y = z
  have := z.isLt
  unfold int8
  simp [IntKind.wrap, IntKind.bits, IntKind.signed]
  omega
theorem int8_32 (y : BitVec 8) : int8 y = int (y.setWidth 32) := by
  have := y.isLt
  unfold int8 int
  rw [BitVec.toNat_setWidth]
  omega
theorem tabH_eq (b : Nat) (p : Int) (y : BitVec 8) : Hand.tabH (b : Int) p y.toNat = int (tabHB b (BitVec.ofInt 32 p) y) := by
  unfold Hand.tabH tabHB
  rw [show ((y.toNat : Nat) : Int) = int8 y from rfl, int8_32, show ((b : Int) - 8).toNat = b - 8 by omega, shl32, stepsH_eq]
theorem tabL_eq (p : Int) (y : BitVec 8) : Hand.tabL p y.toNat = int (tabLB (BitVec.ofInt 32 p) y) := by
  unfold Hand.tabL tabLB
  rw [show ((y.toNat : Nat) : Int) = int8 y from rfl, int8_32, stepsL_eq]
theorem u32_shl (X : B32) : IntKind.u32.wrap (int X * 256) = int (X <<< 8) := by
  rw [← shl32 X 8]
  simp [IntKind.wrap, IntKind.bits, IntKind.signed]
theorem addH_eq (b : Nat) (p : Int) (X : B32) (y : BitVec 8) : Hand.addH (b : Int) p (int X) (int8 y) = int (addHB b (BitVec.ofInt 32 p) X y) := by
  unfold Hand.addH addHB
  rw [u32_shl, show ((b : Int) - 8).toNat = b - 8 by omega, shr32, u8_wrap, xor8, show (int8 ((X >>> (b - 8)).setWidth 8 ^^^ y)).toNat = ((X >>> (b - 8)).setWidth 8 ^^^ y).toNat from rfl, tabH_eq, xor32]
theorem addL_eq (p : Int) (X : B32) (y : BitVec 8) : Hand.addL p (int X) (int8 y) = int (addLB (BitVec.ofInt 32 p) X y) := by
  unfold Hand.addL addLB
  rw [show int X / 256 = int X / 2 ^ 8 by simp, shr32, u8_wrap, xor8, show (int8 (X.setWidth 8 ^^^ y)).toNat = (X.setWidth 8 ^^^ y).toNat from rfl, tabL_eq, xor32]
/-- A text's bytes. -/
def bytes (s : ByteArray) : List (BitVec 8) := s.data.toList.map UInt8.toBitVec
theorem bytes_length (s : ByteArray) : (bytes s).length = s.size := by simp [bytes]
theorem byteAt_bits (s : ByteArray) (k : Nat) (h : k < (bytes s).length) : Hand.byteAt s k = int8 (bytes s)[k] := by
  have h2 : k < s.data.toList.length := by simpa [bytes] using h
  have e : (bytes s)[k]? = some (s.data.toList[k]).toBitVec := by
    unfold bytes
    rw [List.getElem?_map, List.getElem?_eq_getElem h2]
    rfl
  have e2 : (bytes s)[k] = (s.data.toList[k]).toBitVec := by
    rw [List.getElem?_eq_getElem h] at e
    exact Option.some.inj e
  rw [e2]
  unfold Hand.byteAt int8
  rw [List.getD_eq_getElem?_getD, List.getElem?_eq_getElem h2, Option.getD_some]
  rfl
theorem sumTo_eq (f : Int → Int → Int) (g : B32 → BitVec 8 → B32) (h : ∀ X y, f (int X) (int8 y) = int (g X y)) (s : ByteArray) (X : B32) : ∀ k, k ≤ (bytes s).length → Hand.sumTo f s (int X) k = int (((bytes s).take k).foldl g X)
  | 0, _ => rfl
  | k + 1, hk => by
    rw [Hand.sumTo, sumTo_eq f g h s X k (by omega), byteAt_bits s k (by omega), h, List.take_succ_eq_append_getElem (by omega), List.foldl_append]
    rfl
theorem sumAll_eq (f : Int → Int → Int) (g : B32 → BitVec 8 → B32) (h : ∀ X y, f (int X) (int8 y) = int (g X y)) (s : ByteArray) (X : B32) : Hand.sumTo f s (int X) s.size = int ((bytes s).foldl g X) := by
  rw [← bytes_length, sumTo_eq f g h s X _ (Nat.le_refl _), List.take_length]
end Go.Proofs.Ytmpkomhcihgphaa.Math
