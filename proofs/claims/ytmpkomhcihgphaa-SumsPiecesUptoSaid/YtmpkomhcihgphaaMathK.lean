/- The plain law of SumsSpoilt: another byte is another sum. -/
import Derived.Test.YtmpkomhcihgphaaMathJ
namespace Go.Proofs.Ytmpkomhcihgphaa.Math
open Go.RowKit Go.Proofs.Ytmpkomhcihgphaa Go.Proofs.Ytmpkomhcihgphaa.Q Go.Proofs.YtmpkomhcihgphaaW.PrintWords Go.Proofs.YtmpkomhcihgphaaW.PrintLast Go.Proofs.YtmpkomhcihgphaaW.PrintMore
set_option linter.unusedVariables false
set_option linter.unusedSimpArgs false

/-- A bit's step, back. -/
def backH (Q R : B32) : B32 := (R >>> 1) ^^^ (if R.getLsbD 0 then Q else 0#32)
def backL (Q R : B32) : B32 := (R <<< 1) ^^^ (if R.getLsbD 31 then Q else 0#32)
theorem backH_lin (Q : B32) : Lin (backH Q) := Lin.xor (Lin.shr 1) (Lin.bit _ Q)
theorem backL_lin (Q : B32) : Lin (backL Q) := Lin.xor (Lin.shl 1) (Lin.bit _ Q)
theorem back8 (X : B32) : it8 (backH 131#32) (refByte 8 7#32 255#32 (X &&& 255#32) 0#8) = X &&& 255#32 :=
  lin_ext ((it8_lin (backH_lin 131#32)).comp (refByte_lin2 8 7#32 255#32 (Lin.and 255#32) Lin.nought)) (Lin.and 255#32) (by decide +kernel) X
theorem back16 (X : B32) : it8 (backH 49154#32) (refByte 16 32773#32 65535#32 (X &&& 65535#32) 0#8) = X &&& 65535#32 :=
  lin_ext ((it8_lin (backH_lin 49154#32)).comp (refByte_lin2 16 32773#32 65535#32 (Lin.and 65535#32) Lin.nought)) (Lin.and 65535#32) (by decide +kernel) X
theorem back32 (X : B32) : it8 (backH 2187366107#32) (refByte 32 79764919#32 4294967295#32 (X &&& 4294967295#32) 0#8) = X &&& 4294967295#32 :=
  lin_ext ((it8_lin (backH_lin 2187366107#32)).comp (refByte_lin2 32 79764919#32 4294967295#32 (Lin.and 4294967295#32) Lin.nought)) (Lin.and 4294967295#32) (by decide +kernel) X
theorem refByteL_lin2 {n : Nat} (P : B32) {F : BitVec n → B32} {G : BitVec n → BitVec 8} (hF : Lin F) (hG : Lin G) : Lin (fun Z => refByteL P (F Z) (G Z)) := (it8_lin (bitL_lin P)).comp (Lin.xor hF ((Lin.width 32).comp hG))
theorem backLow (X : B32) : it8 (backL 3681617473#32) (refByteL 3988292384#32 X 0#8) = X :=
  lin_ext ((it8_lin (backL_lin 3681617473#32)).comp (refByteL_lin2 3988292384#32 Lin.id Lin.nought)) Lin.id (by decide +kernel) X
theorem addLB_both (P X Y : B32) (x y : BitVec 8) : addLB P (X ^^^ Y) (x ^^^ y) = addLB P X x ^^^ addLB P Y y := by
  have := addLB_lin P (join X x) (join Y y)
  simp only [hi_lin (join X x) (join Y y), lo_lin (join X x) (join Y y), hi_join, lo_join] at this
  exact this
theorem byte8 : ∀ y : BitVec 8, y ≠ 0#8 → refByte 8 7#32 255#32 0#32 y ≠ 0#32 := by decide +kernel
theorem byte16 : ∀ y : BitVec 8, y ≠ 0#8 → refByte 16 32773#32 65535#32 0#32 y ≠ 0#32 := by decide +kernel
theorem byte32 : ∀ y : BitVec 8, y ≠ 0#8 → refByte 32 79764919#32 4294967295#32 0#32 y ≠ 0#32 := by decide +kernel
theorem byteL : ∀ y : BitVec 8, y ≠ 0#8 → refByteL 3988292384#32 0#32 y ≠ 0#32 := by decide +kernel
section
variable {f r : B32 → BitVec 8 → B32} {M : B32} (hb : ∀ X Y x y, f (X ^^^ Y) (x ^^^ y) = f X x ^^^ f Y y) (hm : ∀ X y, r (X &&& M) y = f X y &&& M) (hn : ∀ X, r (X &&& M) 0#8 = 0#32 → X &&& M = 0#32) (hy : ∀ y : BitVec 8, y ≠ 0#8 → r 0#32 y ≠ 0#32)
include hb hm hn
theorem apart_on : ∀ (l : List (BitVec 8)) (X Y : B32), (X ^^^ Y) &&& M ≠ 0#32 → (l.foldl f X ^^^ l.foldl f Y) &&& M ≠ 0#32
  | [], X, Y, h => h
  | y :: l, X, Y, h => by
    rw [List.foldl_cons, List.foldl_cons]
    refine apart_on l _ _ (fun e => h ?_)
    rw [← hb, BitVec.xor_self, ← hm] at e
    exact hn _ e
include hy
theorem apart_at (l : List (BitVec 8)) (j : Nat) (h : j < l.length) (c : BitVec 8) (hc : c ≠ 0#8) (X : B32) : (l.foldl f X ^^^ (l.set j (l[j] ^^^ c)).foldl f X) &&& M ≠ 0#32 := by
  have e1 : l = l.take j ++ l[j] :: l.drop (j + 1) := by rw [List.getElem_cons_drop, List.take_append_drop]
  have e2 : l.set j (l[j] ^^^ c) = l.take j ++ (l[j] ^^^ c) :: l.drop (j + 1) := by rw [List.set_eq_take_append_cons_drop, if_pos h]
  rw [e2]
  have e3 : l.foldl f X = (l.take j ++ l[j] :: l.drop (j + 1)).foldl f X := by rw [← e1]
  rw [e3, List.foldl_append, List.foldl_append, List.foldl_cons, List.foldl_cons]
  refine apart_on hb hm hn _ _ _ (fun e => hy c hc ?_)
  rw [← hb, BitVec.xor_self, ← BitVec.xor_assoc, BitVec.xor_self, BitVec.zero_xor, ← hm, BitVec.zero_and] at e
  exact e
end
theorem it8_nought {f : B32 → B32} (h : Lin f) : it8 f 0#32 = 0#32 := (it8_lin h).zero
theorem int_inj {X Y : B32} (h : int X = int Y) : X = Y := by
  apply BitVec.eq_of_toNat_eq
  unfold int at h
  omega
theorem ne_of_apart {X Y M : B32} (h : (X ^^^ Y) &&& M ≠ 0#32) : int (X &&& M) ≠ int (Y &&& M) := by
  intro e
  apply h
  rw [and_xor, int_inj e, BitVec.xor_self]
/-- A text with another byte. -/
def turned (s : ByteArray) (j : Nat) (c : Int) : ByteArray := strOfNums ((bytesOf s).set j (Go.bits .xor .u8 (bt s (j : Nat)) c))
theorem bytes_bytesOf (s : ByteArray) : (bytesOf s).map (fun n => BitVec.ofNat 8 n.toNat) = bytes s := by
  unfold bytesOf bytes
  rw [List.map_map]
  apply List.map_congr_left
  intro b _
  simp
theorem bytes_turned (s : ByteArray) (j : Nat) (h : j < (bytes s).length) (c : BitVec 8) : bytes (turned s j (int8 c)) = (bytes s).set j ((bytes s)[j] ^^^ c) := by
  unfold turned
  rw [bytes_nums, List.map_set, bytes_bytesOf, bt_bits s j h, xor8]
  congr 1
  unfold int8
  rw [Int.toNat_natCast, BitVec.ofNat_toNat, BitVec.setWidth_eq]
theorem sum_apart (k : Int) (hk : Hand.isKind k) (s : ByteArray) (j : Nat) (h : j < (bytes s).length) (c : BitVec 8) (hc : c ≠ 0#8) : Hand.sumF k s ≠ Hand.sumF k (turned s j (int8 c)) := by
  rcases hk with rfl | rfl | rfl | rfl
  · rw [sum8, sum8, bytes_turned s j h c]
    exact ne_of_apart (apart_at (addHB_both 8 7#32) eq8 (fun X e => by have := back8 X; rw [e, it8_nought (backH_lin _)] at this; exact this.symm) byte8 _ j h c hc _)
  · rw [sum16, sum16, bytes_turned s j h c]
    exact ne_of_apart (apart_at (addHB_both 16 32773#32) eq16 (fun X e => by have := back16 X; rw [e, it8_nought (backH_lin _)] at this; exact this.symm) byte16 _ j h c hc _)
  · rw [sum32, sum32, bytes_turned s j h c]
    exact ne_of_apart (apart_at (addHB_both 32 79764919#32) eq32 (fun X e => by have := back32 X; rw [e, it8_nought (backH_lin _)] at this; exact this.symm) byte32 _ j h c hc _)
  · rw [sum33, sum33, bytes_turned s j h c]
    have ha := apart_at (r := refByteL 3988292384#32) (M := 4294967295#32) (addLB_both 3988292384#32) (fun X y => by
      have e : ∀ Z : B32, Z &&& 4294967295#32 = Z := fun Z => BitVec.and_allOnes
      rw [e, e]; exact eqL X y) (fun X e => by
      have e1 : ∀ Z : B32, Z &&& 4294967295#32 = Z := fun Z => BitVec.and_allOnes
      rw [e1] at e ⊢
      have := backLow X
      rw [e, it8_nought (backL_lin _)] at this
      exact this.symm) byteL (bytes s) j h c hc 4294967295#32
    intro e
    apply ne_of_apart ha
    have e1 : ∀ Z : B32, Z &&& 4294967295#32 = Z := fun Z => BitVec.and_allOnes
    rw [e1, e1]
    have e2 := congrArg (fun X => 4294967295#32 ^^^ X) (int_inj e)
    simp only [← BitVec.xor_assoc, BitVec.xor_self, BitVec.zero_xor] at e2
    rw [e2]
end Go.Proofs.Ytmpkomhcihgphaa.Math
