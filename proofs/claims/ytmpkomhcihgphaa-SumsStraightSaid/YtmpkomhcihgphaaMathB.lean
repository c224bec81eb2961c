/- The plain laws of layer 3: a byte's step by the table is its eight bits' steps. -/
import Derived.Test.YtmpkomhcihgphaaMathA
namespace Go.Proofs.Ytmpkomhcihgphaa.Math
open Go.RowKit Go.Proofs.Ytmpkomhcihgphaa
set_option linter.unusedVariables false
set_option linter.unusedSimpArgs false

abbrev B32 := BitVec 32
/-- A bit's step, the highest bit first; the lowest bit first. -/
def bitH (b : Nat) (P X : B32) : B32 := (X <<< 1) ^^^ (if X.getLsbD (b - 1) then P else 0#32)
def bitL (P X : B32) : B32 := (X >>> 1) ^^^ (if X.getLsbD 0 then P else 0#32)
def it8 (f : B32 → B32) (x : B32) : B32 := f (f (f (f (f (f (f (f x)))))))
def tabHB (b : Nat) (P : B32) (j : BitVec 8) : B32 := it8 (bitH b P) ((j.setWidth 32) <<< (b - 8))
def tabLB (P : B32) (j : BitVec 8) : B32 := it8 (bitL P) (j.setWidth 32)
def addHB (b : Nat) (P X : B32) (y : BitVec 8) : B32 := (X <<< 8) ^^^ tabHB b P (((X >>> (b - 8)).setWidth 8) ^^^ y)
def addLB (P X : B32) (y : BitVec 8) : B32 := (X >>> 8) ^^^ tabLB P ((X.setWidth 8) ^^^ y)
/-- The reference's step. -/
def refBit (b : Nat) (P M R : B32) (bit : Bool) : B32 := ((R <<< 1) &&& M) ^^^ ((if R.getLsbD (b - 1) then P else 0#32) ^^^ (if bit then P else 0#32))
def refByte (b : Nat) (P M R : B32) (y : BitVec 8) : B32 :=
  refBit b P M (refBit b P M (refBit b P M (refBit b P M (refBit b P M (refBit b P M (refBit b P M (refBit b P M R (y.getLsbD 7)) (y.getLsbD 6)) (y.getLsbD 5)) (y.getLsbD 4)) (y.getLsbD 3)) (y.getLsbD 2)) (y.getLsbD 1)) (y.getLsbD 0)
def refByteL (P X : B32) (y : BitVec 8) : B32 := it8 (bitL P) (X ^^^ y.setWidth 32)
theorem bitH_lin (b : Nat) (P : B32) : Lin (bitH b P) := Lin.xor (Lin.shl 1) (Lin.bit _ P)
theorem bitL_lin (P : B32) : Lin (bitL P) := Lin.xor (Lin.shr 1) (Lin.bit _ P)
theorem it8_lin {f : B32 → B32} (h : Lin f) : Lin (it8 f) := h.comp (h.comp (h.comp (h.comp (h.comp (h.comp (h.comp h))))))
theorem tabHB_lin (b : Nat) (P : B32) : Lin (tabHB b P) := (it8_lin (bitH_lin b P)).comp ((Lin.shl (b - 8)).comp (Lin.width 32))
theorem tabLB_lin (P : B32) : Lin (tabLB P) := (it8_lin (bitL_lin P)).comp (Lin.width 32)
/-- The two parts of 40 bits. -/
def hi (Z : BitVec 40) : B32 := (Z >>> 8).setWidth 32
def lo (Z : BitVec 40) : BitVec 8 := Z.setWidth 8
theorem hi_lin : Lin hi := (Lin.width 32).comp (Lin.shr 8)
theorem lo_lin : Lin lo := Lin.width 8
def join (X : B32) (y : BitVec 8) : BitVec 40 := ((X.setWidth 40) <<< 8) ^^^ y.setWidth 40
theorem hi_join (X : B32) (y : BitVec 8) : hi (join X y) = X := by
  apply BitVec.eq_of_getLsbD_eq
  intro i h
  simp only [hi, join, BitVec.getLsbD_setWidth, BitVec.getLsbD_ushiftRight, BitVec.getLsbD_xor, BitVec.getLsbD_shiftLeft]
  have h1 : y.getLsbD (8 + i) = false := BitVec.getLsbD_of_ge y _ (by omega)
  simp [h1, h, show 8 + i < 40 by omega, show i < 40 by omega]
theorem lo_join (X : B32) (y : BitVec 8) : lo (join X y) = y := by
  apply BitVec.eq_of_getLsbD_eq
  intro i h
  simp only [lo, join, BitVec.getLsbD_setWidth, BitVec.getLsbD_xor, BitVec.getLsbD_shiftLeft]
  simp [h, show i < 40 by omega]
theorem bit_lin {n m : Nat} {F : BitVec n → BitVec m} (h : Lin F) (k : Nat) (p : B32) : Lin (fun Z => if (F Z).getLsbD k then p else 0#32) := (Lin.bit k p).comp h
theorem refBit_lin (b : Nat) (P M : B32) {F : BitVec 40 → B32} (h : Lin F) (k : Nat) : Lin (fun Z => refBit b P M (F Z) ((lo Z).getLsbD k)) :=
  Lin.xor ((Lin.and M).comp ((Lin.shl 1).comp h)) (Lin.xor (bit_lin h _ P) (bit_lin lo_lin k P))
theorem refByte_lin (b : Nat) (P M : B32) : Lin (fun Z => refByte b P M (hi Z &&& M) (lo Z)) :=
  refBit_lin b P M (refBit_lin b P M (refBit_lin b P M (refBit_lin b P M (refBit_lin b P M (refBit_lin b P M (refBit_lin b P M (refBit_lin b P M ((Lin.and M).comp hi_lin) 7) 6) 5) 4) 3) 2) 1) 0
theorem addHB_lin (b : Nat) (P : B32) : Lin (fun Z => addHB b P (hi Z) (lo Z)) :=
  Lin.xor ((Lin.shl 8).comp hi_lin) ((tabHB_lin b P).comp (Lin.xor ((Lin.width 8).comp ((Lin.shr (b - 8)).comp hi_lin)) lo_lin))
theorem addLB_lin (P : B32) : Lin (fun Z => addLB P (hi Z) (lo Z)) :=
  Lin.xor ((Lin.shr 8).comp hi_lin) ((tabLB_lin P).comp (Lin.xor ((Lin.width 8).comp hi_lin) lo_lin))
theorem refByteL_lin (P : B32) : Lin (fun Z => refByteL P (hi Z) (lo Z)) := (it8_lin (bitL_lin P)).comp (Lin.xor hi_lin ((Lin.width 32).comp lo_lin))
theorem high_eq (b : Nat) (P M : B32) (h : ∀ i : Nat, i < 40 → refByte b P M (hi (BitVec.twoPow 40 i) &&& M) (lo (BitVec.twoPow 40 i)) = addHB b P (hi (BitVec.twoPow 40 i)) (lo (BitVec.twoPow 40 i)) &&& M) (X : B32) (y : BitVec 8) :
    refByte b P M (X &&& M) y = addHB b P X y &&& M := by
  have := lin_ext (refByte_lin b P M) ((Lin.and M).comp (addHB_lin b P)) h (join X y)
  simp only [hi_join, lo_join] at this
  exact this
theorem low_eq (P : B32) (h : ∀ i : Nat, i < 40 → refByteL P (hi (BitVec.twoPow 40 i)) (lo (BitVec.twoPow 40 i)) = addLB P (hi (BitVec.twoPow 40 i)) (lo (BitVec.twoPow 40 i))) (X : B32) (y : BitVec 8) :
    refByteL P X y = addLB P X y := by
  have := lin_ext (refByteL_lin P) (addLB_lin P) h (join X y)
  simp only [hi_join, lo_join] at this
  exact this
theorem eq8 (X : B32) (y : BitVec 8) : refByte 8 7#32 255#32 (X &&& 255#32) y = addHB 8 7#32 X y &&& 255#32 := high_eq 8 7#32 255#32 (by decide +kernel) X y
theorem eq16 (X : B32) (y : BitVec 8) : refByte 16 32773#32 65535#32 (X &&& 65535#32) y = addHB 16 32773#32 X y &&& 65535#32 := high_eq 16 _ _ (by decide +kernel) X y
theorem eq32 (X : B32) (y : BitVec 8) : refByte 32 79764919#32 4294967295#32 (X &&& 4294967295#32) y = addHB 32 79764919#32 X y &&& 4294967295#32 := high_eq 32 _ _ (by decide +kernel) X y
theorem eqL (X : B32) (y : BitVec 8) : refByteL 3988292384#32 X y = addLB 3988292384#32 X y := low_eq _ (by decide +kernel) X y
end Go.Proofs.Ytmpkomhcihgphaa.Math
