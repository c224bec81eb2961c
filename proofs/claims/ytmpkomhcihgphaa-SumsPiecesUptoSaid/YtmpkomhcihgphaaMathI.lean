/- The plain law of SumsNought. -/
import Derived.Test.YtmpkomhcihgphaaMathH
import Derived.Test.YtmpkomhcihgphaaQx2
namespace Go.Proofs.Ytmpkomhcihgphaa.Math
open Go.RowKit Go.Proofs.Ytmpkomhcihgphaa Go.Proofs.Ytmpkomhcihgphaa.Q Go.Proofs.YtmpkomhcihgphaaW.PrintWords Go.Proofs.YtmpkomhcihgphaaW.PrintLast Go.Proofs.YtmpkomhcihgphaaW.PrintMore
set_option linter.unusedVariables false
set_option linter.unusedSimpArgs false

theorem bytes_append (a b : ByteArray) : bytes (a ++ b) = bytes a ++ bytes b := by
  unfold bytes
  rw [ByteArray.data_append]
  simp
theorem bytes_nums (l : List Int) : bytes (strOfNums l) = l.map (fun n => BitVec.ofNat 8 n.toNat) := by
  unfold bytes strOfNums
  simp
  intro a _
  rfl
theorem byte_of (R : B32) (k : Nat) : BitVec.ofNat 8 ((int R / 2 ^ k) % 256).toNat = (R >>> k).setWidth 8 := by
  rw [shr32]
  apply BitVec.eq_of_toNat_eq
  rw [BitVec.toNat_ofNat, BitVec.toNat_setWidth]
  unfold int
  omega
theorem byte_of0 (R : B32) : BitVec.ofNat 8 (int R % 256).toNat = R.setWidth 8 := by
  have := byte_of R 0
  simpa using this
theorem refBit_lin2 {n : Nat} (b : Nat) (P M : B32) {F : BitVec n → B32} {G : BitVec n → BitVec 8} (hF : Lin F) (hG : Lin G) (k : Nat) : Lin (fun Z => refBit b P M (F Z) ((G Z).getLsbD k)) :=
  Lin.xor ((Lin.and M).comp ((Lin.shl 1).comp hF)) (Lin.xor ((Lin.bit _ P).comp hF) ((Lin.bit k P).comp hG))
theorem refByte_lin2 {n : Nat} (b : Nat) (P M : B32) {F : BitVec n → B32} {G : BitVec n → BitVec 8} (hF : Lin F) (hG : Lin G) : Lin (fun Z => refByte b P M (F Z) (G Z)) :=
  refBit_lin2 b P M (refBit_lin2 b P M (refBit_lin2 b P M (refBit_lin2 b P M (refBit_lin2 b P M (refBit_lin2 b P M (refBit_lin2 b P M (refBit_lin2 b P M hF hG 7) hG 6) hG 5) hG 4) hG 3) hG 2) hG 1) hG 0
theorem Lin.nought {n m : Nat} : Lin (fun _ : BitVec n => 0#m) := fun _ _ => by simp
theorem byteAt_lin (M : B32) (k : Nat) : Lin (fun X : B32 => ((X &&& M) >>> k).setWidth 8) := (Lin.width 8).comp ((Lin.shr k).comp (Lin.and M))
theorem byteAt_lin0 (M : B32) : Lin (fun X : B32 => (X &&& M).setWidth 8) := (Lin.width 8).comp (Lin.and M)
theorem nought8 (X : B32) : refByte 8 7#32 255#32 (X &&& 255#32) ((X &&& 255#32).setWidth 8) = 0#32 :=
  lin_ext (refByte_lin2 8 7#32 255#32 (Lin.and 255#32) (byteAt_lin0 255#32)) Lin.nought (by decide +kernel) X
theorem nought16 (X : B32) : refByte 16 32773#32 65535#32 (refByte 16 32773#32 65535#32 (X &&& 65535#32) (((X &&& 65535#32) >>> 8).setWidth 8)) ((X &&& 65535#32).setWidth 8) = 0#32 :=
  lin_ext (refByte_lin2 16 32773#32 65535#32 (refByte_lin2 16 32773#32 65535#32 (Lin.and 65535#32) (byteAt_lin 65535#32 8)) (byteAt_lin0 65535#32)) Lin.nought (by decide +kernel) X
abbrev r32 := refByte 32 79764919#32 4294967295#32
theorem nought32 (X : B32) : r32 (r32 (r32 (r32 (X &&& 4294967295#32) (((X &&& 4294967295#32) >>> 24).setWidth 8)) (((X &&& 4294967295#32) >>> 16).setWidth 8)) (((X &&& 4294967295#32) >>> 8).setWidth 8)) ((X &&& 4294967295#32).setWidth 8) = 0#32 :=
  lin_ext (refByte_lin2 32 79764919#32 4294967295#32 (refByte_lin2 32 79764919#32 4294967295#32 (refByte_lin2 32 79764919#32 4294967295#32 (refByte_lin2 32 79764919#32 4294967295#32 (Lin.and 4294967295#32) (byteAt_lin 4294967295#32 24)) (byteAt_lin 4294967295#32 16)) (byteAt_lin 4294967295#32 8)) (byteAt_lin0 4294967295#32)) Lin.nought (by decide +kernel) X
theorem sumF8_more (s : ByteArray) (l : List Int) (X : B32) (hX : (bytes s).foldl (addHB 8 7#32) 0#32 = X) : Hand.sumF 8 (s ++ strOfNums l) = int ((bytes (strOfNums l)).foldl (refByte 8 7#32 255#32) (X &&& 255#32)) := by
  rw [sum8, bytes_append, List.foldl_append, hX, fold_mask (addHB 8 7#32) (refByte 8 7#32 255#32) 255#32 eq8]
theorem sumF16_more (s : ByteArray) (l : List Int) (X : B32) (hX : (bytes s).foldl (addHB 16 32773#32) 0#32 = X) : Hand.sumF 16 (s ++ strOfNums l) = int ((bytes (strOfNums l)).foldl (refByte 16 32773#32 65535#32) (X &&& 65535#32)) := by
  rw [sum16, bytes_append, List.foldl_append, hX, fold_mask (addHB 16 32773#32) (refByte 16 32773#32 65535#32) 65535#32 eq16]
theorem sumF32_more (s : ByteArray) (l : List Int) (X : B32) (hX : (bytes s).foldl (addHB 32 79764919#32) 0#32 = X) : Hand.sumF 32 (s ++ strOfNums l) = int ((bytes (strOfNums l)).foldl (refByte 32 79764919#32 4294967295#32) (X &&& 4294967295#32)) := by
  rw [sum32, bytes_append, List.foldl_append, hX, fold_mask (addHB 32 79764919#32) (refByte 32 79764919#32 4294967295#32) 4294967295#32 eq32]
theorem of_f2 (k : Int) (s : ByteArray) (hk : Hand.isKind k) (hs : s.size ≤ 140737488355328) : sums_of.f k s = some (Hand.sumF k s) := if_pos ⟨hk, by unfold maxLen; omega⟩
theorem size_nums (l : List Int) : (strOfNums l).size = l.length := by
  have : (strOfNums l).size = ((l.map fun n => UInt8.ofNat n.toNat).toArray).size := rfl
  rw [this, List.size_toArray, List.length_map]
theorem size_more (s : ByteArray) (l : List Int) : (s ++ strOfNums l).size = s.size + l.length := by rw [ByteArray.size_append, size_nums]
theorem nought_of (f8 f16 f32 : ByteArray → Option Int) (a0 : ByteArray) (x8 x16 x32 : Int) (hs : a0.size ≤ 140737488351232) (h8 : f8 a0 = some x8) (h16 : f16 a0 = some x16) (h32 : f32 a0 = some x32)
    (k8 : f8 (a0 ++ strOfNums [x8 % 256]) = some 0) (k16 : f16 (a0 ++ strOfNums [x16 / 256 % 256, x16 % 256]) = some 0) (k32 : f32 (a0 ++ strOfNums [x32 / 16777216 % 256, x32 / 65536 % 256, x32 / 256 % 256, x32 % 256]) = some 0) :
    ((f8 a0).bind fun t125 => ((f16 a0).bind fun t126 => ((f32 a0).bind fun t127 => ((some (([(t125) % 256] : List Int) : List Int)).bind fun y128 => (if a0.size + (strOfNums y128).size ≤ 9223372036854775807 then ((some (([(t126 / 256) % 256, (t126) % 256] : List Int) : List Int)).bind fun y131 => (if a0.size + (strOfNums y131).size ≤ 9223372036854775807 then ((some (([(t127 / 16777216) % 256, (t127 / 65536) % 256, (t127 / 256) % 256, (t127) % 256] : List Int) : List Int)).bind fun y134 => (if a0.size + (strOfNums y134).size ≤ 9223372036854775807 then ((f8 (a0 ++ (strOfNums y128))).bind fun t137 => (if t137 = 0 then ((f16 (a0 ++ (strOfNums y131))).bind fun t138 => (if t138 = 0 then ((f32 (a0 ++ (strOfNums y134))).bind fun t139 => (if t139 = 0 then ((some true).bind fun t140 => (some t140)) else (none))) else (none))) else (none))) else (none))) else (none))) else (none)))))) = some true := by
  simp only [h8, h16, h32, Option.bind_some, size_nums, List.length_cons, List.length_nil]
  rw [if_pos (by omega), if_pos (by omega), if_pos (by omega), k8, Option.bind_some, if_pos rfl, k16, Option.bind_some, if_pos rfl, k32, Option.bind_some, if_pos rfl]
theorem of_b (k : Int) (s : ByteArray) (hk : Hand.isKind k) (hs : s.size ≤ 140737488355328) (x : Int) (h : Hand.sumF k s = x) : (sums_of.f k s).bind (fun t => some t) = some x := by rw [of_f2 k s hk hs, h]; rfl
theorem SumsNought_f (s : ByteArray) (hs : s.size ≤ 140737488351232) : lacquerlaw03_SumsNought.f s = some true := by
  have h8 := sum8 s
  have h16 := sum16 s
  have h32 := sum32 s
  obtain ⟨X8, e8⟩ : ∃ X, (bytes s).foldl (addHB 8 7#32) 0#32 = X := ⟨_, rfl⟩
  obtain ⟨X16, e16⟩ : ∃ X, (bytes s).foldl (addHB 16 32773#32) 0#32 = X := ⟨_, rfl⟩
  obtain ⟨X32, e32⟩ : ∃ X, (bytes s).foldl (addHB 32 79764919#32) 0#32 = X := ⟨_, rfl⟩
  rw [e8] at h8
  rw [e16] at h16
  rw [e32] at h32
  have d8 := byte_of0 (X8 &&& 255#32)
  have d16 := byte_of0 (X16 &&& 65535#32)
  have f16 : BitVec.ofNat 8 ((int (X16 &&& 65535#32) / 256) % 256).toNat = ((X16 &&& 65535#32) >>> 8).setWidth 8 := byte_of _ 8
  have d32 := byte_of0 (X32 &&& 4294967295#32)
  have f32 : BitVec.ofNat 8 ((int (X32 &&& 4294967295#32) / 256) % 256).toNat = ((X32 &&& 4294967295#32) >>> 8).setWidth 8 := byte_of _ 8
  have g32 : BitVec.ofNat 8 ((int (X32 &&& 4294967295#32) / 65536) % 256).toNat = ((X32 &&& 4294967295#32) >>> 16).setWidth 8 := byte_of _ 16
  have i32 : BitVec.ofNat 8 ((int (X32 &&& 4294967295#32) / 16777216) % 256).toNat = ((X32 &&& 4294967295#32) >>> 24).setWidth 8 := byte_of _ 24
  have k8 : Hand.sumF 8 (s ++ strOfNums [int (X8 &&& 255#32) % 256]) = 0 := by
    rw [sumF8_more s _ X8 e8, bytes_nums]
    simp only [List.map_cons, List.map_nil, List.foldl_cons, List.foldl_nil, d8, nought8]
    rfl
  have k16 : Hand.sumF 16 (s ++ strOfNums [int (X16 &&& 65535#32) / 256 % 256, int (X16 &&& 65535#32) % 256]) = 0 := by
    rw [sumF16_more s _ X16 e16, bytes_nums]
    simp only [List.map_cons, List.map_nil, List.foldl_cons, List.foldl_nil, d16, f16, nought16]
    rfl
  have k32 : Hand.sumF 32 (s ++ strOfNums [int (X32 &&& 4294967295#32) / 16777216 % 256, int (X32 &&& 4294967295#32) / 65536 % 256, int (X32 &&& 4294967295#32) / 256 % 256, int (X32 &&& 4294967295#32) % 256]) = 0 := by
    rw [sumF32_more s _ X32 e32, bytes_nums]
    simp only [List.map_cons, List.map_nil, List.foldl_cons, List.foldl_nil, d32, f32, g32, i32, nought32]
    rfl
  exact nought_of (fun s => (sums_of.f 8 s).bind (fun t => some t)) (fun s => (sums_of.f 16 s).bind (fun t => some t)) (fun s => (sums_of.f 32 s).bind (fun t => some t)) s _ _ _ hs
    (of_b 8 s (by decide) (by omega) _ h8) (of_b 16 s (by decide) (by omega) _ h16) (of_b 32 s (by decide) (by omega) _ h32)
    (of_b 8 _ (by decide) (by rw [size_more]; simp only [List.length_cons, List.length_nil]; omega) _ k8) (of_b 16 _ (by decide) (by rw [size_more]; simp only [List.length_cons, List.length_nil]; omega) _ k16) (of_b 32 _ (by decide) (by rw [size_more]; simp only [List.length_cons, List.length_nil]; omega) _ k32)
end Go.Proofs.Ytmpkomhcihgphaa.Math
