/- The plain laws of layer 3: what the sums tell, and the reference. -/
import Derived.Test.YtmpkomhcihgphaaMathD
import Derived.Test.YtmpkomhcihgphaaQx1
namespace Go.Proofs.Ytmpkomhcihgphaa.Math
open Go.RowKit Go.Proofs.Ytmpkomhcihgphaa Go.Proofs.Ytmpkomhcihgphaa.Q Go.Proofs.YtmpkomhcihgphaaW.PrintWords Go.Proofs.YtmpkomhcihgphaaW.PrintLast Go.Proofs.YtmpkomhcihgphaaW.PrintMore
set_option linter.unusedVariables false
set_option linter.unusedSimpArgs false

theorem wrap_id (x : Int) (h : -9223372036854775808 ≤ x) (h2 : x ≤ 9223372036854775807) : wrap64 x = x := by unfold wrap64; omega
theorem u64_id (x : Int) (h : 0 ≤ x) (h2 : x ≤ 9223372036854775807) : IntKind.u64.wrap x = x := by
  simp [IntKind.wrap, IntKind.bits, IntKind.signed]; omega
theorem of_int64 (X : B32) : BitVec.ofInt 64 (int X) = X.setWidth 64 := by
  unfold int
  rw [BitVec.ofInt_natCast]
  apply BitVec.eq_of_toNat_eq
  rw [BitVec.toNat_ofNat, BitVec.toNat_setWidth]
theorem i64_of (Z : BitVec 64) (X : B32) (h : Z = X.setWidth 64) : IntKind.i64.wrap (Z.toNat : Int) = int X := by
  subst h
  have := X.isLt
  rw [BitVec.toNat_setWidth, IntKind.wrap_i64]
  unfold int
  omega
theorem xor64 (X Y : B32) : Go.bits .xor .i64 (int X) (int Y) = int (X ^^^ Y) := by
  have e : Go.bits .xor .i64 (int X) (int Y) = IntKind.i64.wrap ((BitVec.ofInt 64 (int X) ^^^ BitVec.ofInt 64 (int Y)).toNat : Int) := rfl
  rw [e, i64_of _ (X ^^^ Y)]
  rw [of_int64, of_int64]
  exact (Lin.width 64 X Y).symm
theorem and64 (X Y : B32) : Go.bits .and .i64 (int X) (int Y) = int (X &&& Y) := by
  have e : Go.bits .and .i64 (int X) (int Y) = IntKind.i64.wrap ((BitVec.ofInt 64 (int X) &&& BitVec.ofInt 64 (int Y)).toNat : Int) := rfl
  rw [e, i64_of _ (X &&& Y)]
  rw [of_int64, of_int64]
  apply BitVec.eq_of_getLsbD_eq
  intro i h
  simp only [BitVec.getLsbD_and, BitVec.getLsbD_setWidth]
  simp [h]
theorem valH8 (X : B32) : Hand.valH 8 (int X) = int (X &&& 255#32) := by
  have := int_lt X
  unfold Hand.valH
  rw [wrap_id (int X) (by omega) (by omega), show wrap64 (wrap64 (2 ^ (8 : Int).toNat) - 1) = int 255#32 by decide +kernel, and64]
theorem valH16 (X : B32) : Hand.valH 16 (int X) = int (X &&& 65535#32) := by
  have := int_lt X
  unfold Hand.valH
  rw [wrap_id (int X) (by omega) (by omega), show wrap64 (wrap64 (2 ^ (16 : Int).toNat) - 1) = int 65535#32 by decide +kernel, and64]
theorem valH32 (X : B32) : Hand.valH 32 (int X) = int (X &&& 4294967295#32) := by
  have := int_lt X
  unfold Hand.valH
  rw [wrap_id (int X) (by omega) (by omega), show wrap64 (wrap64 (2 ^ (32 : Int).toNat) - 1) = int 4294967295#32 by decide +kernel, and64]
theorem valL_eq (X : B32) : Hand.valL (int X) = int (4294967295#32 ^^^ X) := by
  have := int_lt (4294967295#32 ^^^ X)
  unfold Hand.valL
  rw [show IntKind.u32.max = int 4294967295#32 by decide +kernel, xor32, wrap_id _ (by omega) (by omega)]
theorem sum8 (s : ByteArray) : Hand.sumF 8 s = int ((bytes s).foldl (addHB 8 7#32) 0#32 &&& 255#32) := by
  rw [Hand.sumF_8]
  unfold Hand.highF
  rw [show (0 : Int) = int 0#32 from rfl, sumAll_eq (Hand.addH 8 7) (addHB 8 7#32) (addH_eq 8 7), valH8]
theorem sum16 (s : ByteArray) : Hand.sumF 16 s = int ((bytes s).foldl (addHB 16 32773#32) 0#32 &&& 65535#32) := by
  rw [Hand.sumF_16]
  unfold Hand.highF
  rw [show (0 : Int) = int 0#32 from rfl, sumAll_eq (Hand.addH 16 32773) (addHB 16 32773#32) (addH_eq 16 32773), valH16]
theorem sum32 (s : ByteArray) : Hand.sumF 32 s = int ((bytes s).foldl (addHB 32 79764919#32) 0#32 &&& 4294967295#32) := by
  rw [Hand.sumF_32]
  unfold Hand.highF
  rw [show (0 : Int) = int 0#32 from rfl, sumAll_eq (Hand.addH 32 79764919) (addHB 32 79764919#32) (addH_eq 32 79764919), valH32]
theorem sum33 (s : ByteArray) : Hand.sumF 33 s = int (4294967295#32 ^^^ (bytes s).foldl (addLB 3988292384#32) 4294967295#32) := by
  rw [Hand.sumF_33]
  unfold Hand.lowF
  rw [show (4294967295 : Int) = int 4294967295#32 from rfl, sumAll_eq _ _ (addL_eq 3988292384), valL_eq]
  rfl
end Go.Proofs.Ytmpkomhcihgphaa.Math
