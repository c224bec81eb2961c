/- The plain law of SumsStraight. -/
import Derived.Test.YtmpkomhcihgphaaMathI
namespace Go.Proofs.Ytmpkomhcihgphaa.Math
open Go.RowKit Go.Proofs.Ytmpkomhcihgphaa Go.Proofs.Ytmpkomhcihgphaa.Q Go.Proofs.YtmpkomhcihgphaaW.PrintWords Go.Proofs.YtmpkomhcihgphaaW.PrintLast Go.Proofs.YtmpkomhcihgphaaW.PrintMore
set_option linter.unusedVariables false
set_option linter.unusedSimpArgs false

theorem addHB_both (b : Nat) (P X Y : B32) (x y : BitVec 8) : addHB b P (X ^^^ Y) (x ^^^ y) = addHB b P X x ^^^ addHB b P Y y := by
  have := addHB_lin b P (join X x) (join Y y)
  simp only [hi_lin (join X x) (join Y y), lo_lin (join X x) (join Y y), hi_join, lo_join] at this
  exact this
theorem fold_both {f : B32 → BitVec 8 → B32} (h : ∀ X Y x y, f (X ^^^ Y) (x ^^^ y) = f X x ^^^ f Y y) : ∀ (l m : List (BitVec 8)) (X Y : B32), l.length = m.length → (List.zipWith (· ^^^ ·) l m).foldl f (X ^^^ Y) = l.foldl f X ^^^ m.foldl f Y
  | [], [], X, Y, _ => rfl
  | x :: l, y :: m, X, Y, e => by
    rw [List.zipWith_cons_cons, List.foldl_cons, List.foldl_cons, List.foldl_cons, h]
    exact fold_both h l m _ _ (by simpa using e)
def xorL (s t : ByteArray) (n : Nat) : List Int := (List.range n).map fun i => Go.bits .xor .u8 (bt s (i : Nat)) (bt t (i : Nat))
theorem xorL_length (s t : ByteArray) (n : Nat) : (xorL s t n).length = n := by simp [xorL]
theorem xorL_step (s t : ByteArray) (j n : Nat) (h : j < n) : (xorL s t j ++ List.replicate (n - j) 0).set j (Go.bits .xor .u8 (bt s (j : Nat)) (bt t (j : Nat))) = xorL s t (j + 1) ++ List.replicate (n - (j + 1)) 0 := by
  obtain ⟨m, hm⟩ : ∃ m, n - j = m + 1 := ⟨n - j - 1, by omega⟩
  rw [hm, show n - (j + 1) = m by omega, List.set_append_right _ _ (by rw [xorL_length]; omega), xorL_length, Nat.sub_self, List.replicate_succ, List.set_cons_zero]
  unfold xorL
  rw [List.range_succ, List.map_append, List.append_assoc]
  rfl
theorem bytes_cut (s : ByteArray) (n : Nat) (h : n ≤ s.size) : bytes (s.extract 0 n) = (bytes s).take n := by
  unfold bytes
  rw [ByteArray.data_extract, Array.toList_extract]
  simp [List.map_take]
theorem bytes_xor (s t : ByteArray) (n : Nat) (hs : n ≤ s.size) (ht : n ≤ t.size) : bytes (strOfNums (xorL s t n)) = List.zipWith (· ^^^ ·) (bytes (s.extract 0 n)) (bytes (t.extract 0 n)) := by
  rw [bytes_nums, bytes_cut s n hs, bytes_cut t n ht]
  have ls := bytes_length s
  have lt := bytes_length t
  apply List.ext_getElem
  · simp [xorL_length, ls, lt]; omega
  · intro i h1 h2
    have hi : i < n := by simpa [xorL_length] using h1
    simp only [List.getElem_map, List.getElem_zipWith, List.getElem_take]
    have e : (xorL s t n)[i]'(by rw [xorL_length]; exact hi) = Go.bits .xor .u8 (bt s (i : Nat)) (bt t (i : Nat)) := by simp [xorL]
    rw [e, bt_bits s i (by omega), bt_bits t i (by omega), xor8]
    unfold int8
    rw [Int.toNat_natCast, BitVec.ofNat_toNat, BitVec.setWidth_eq]
theorem and_xor (X Y M : B32) : (X ^^^ Y) &&& M = (X &&& M) ^^^ (Y &&& M) := Lin.and M X Y
theorem sum_xor (k : Int) (s t : ByteArray) (n : Nat) (hs : n ≤ s.size) (ht : n ≤ t.size) (hk : k = 8 ∨ k = 16 ∨ k = 32) :
    Hand.sumF k (strOfNums (xorL s t n)) = Go.bits .xor .i64 (Hand.sumF k (s.extract 0 n)) (Hand.sumF k (t.extract 0 n)) := by
  have el : (bytes (s.extract 0 n)).length = (bytes (t.extract 0 n)).length := by rw [bytes_length, bytes_length, ByteArray.size_extract, ByteArray.size_extract]; omega
  rcases hk with rfl | rfl | rfl
  · rw [sum8, sum8, sum8, xor64, bytes_xor s t n hs ht, ← and_xor, ← fold_both (addHB_both 8 7#32) _ _ _ _ el]; simp
  · rw [sum16, sum16, sum16, xor64, bytes_xor s t n hs ht, ← and_xor, ← fold_both (addHB_both 16 32773#32) _ _ _ _ el]; simp
  · rw [sum32, sum32, sum32, xor64, bytes_xor s t n hs ht, ← and_xor, ← fold_both (addHB_both 32 79764919#32) _ _ _ _ el]; simp
theorem straight_loop (s t : ByteArray) (n : Nat) (hn : n ≤ s.size) (hn2 : n ≤ t.size) (hs : s.size ≤ 140737488351232) (ht : t.size ≤ 140737488351232) : ∀ d j : Nat, j + d = n →
    Ev (fun k => lacquerlaw03_SumsStraight.l0 k s t (n : Int) (xorL s t j ++ List.replicate (n - j) 0) (j : Int)) true
  | 0, j, e => by
    refine Ev.step (fun k => lacquerlaw03_SumsStraight.l0.eq_2 _ _ _ _ _ _) ?_
    obtain rfl : j = n := by omega
    have s1 : (s.extract 0 j).size ≤ 140737488355328 := by rw [ByteArray.size_extract]; omega
    have s2 : (t.extract 0 j).size ≤ 140737488355328 := by rw [ByteArray.size_extract]; omega
    have s3 : (strOfNums (xorL s t j)).size ≤ 140737488355328 := by rw [size_nums, xorL_length]; omega
    simp only [show ¬ ((j : Int) < (j : Int)) by omega, if_false, show (0 : Int) ≤ (j : Int) by omega, show ((j : Int) ≤ (s.size : Int)) by omega, show ((j : Int) ≤ (t.size : Int)) by omega, if_true, Nat.sub_self, List.replicate_zero, List.append_nil, Int.toNat_natCast,
      sums_Crc8.f, sums_Crc16.f, sums_Ogg.f, of_f2 8 _ (by decide) s1, of_f2 8 _ (by decide) s2, of_f2 8 _ (by decide) s3, of_f2 16 _ (by decide) s1, of_f2 16 _ (by decide) s2, of_f2 16 _ (by decide) s3, of_f2 32 _ (by decide) s1, of_f2 32 _ (by decide) s2, of_f2 32 _ (by decide) s3,
      Option.bind_some, sum_xor 8 s t j hn hn2 (by decide), sum_xor 16 s t j hn hn2 (by decide), sum_xor 32 s t j hn hn2 (by decide), lacquerlaw03_awake.f]
    exact Ev.now _
  | d + 1, j, e => by
    refine Ev.step (fun k => lacquerlaw03_SumsStraight.l0.eq_2 _ _ _ _ _ _) ?_
    have hl : (xorL s t j ++ List.replicate (n - j) 0).length = n := by rw [List.length_append, xorL_length, List.length_replicate]; omega
    simp only [show ((j : Int) < (n : Int)) by omega, show (0 : Int) ≤ (j : Int) by omega, show ((j : Int) < (s.size : Int)) by omega, show ((j : Int) < (t.size : Int)) by omega, hl, if_true, Int.toNat_natCast, wrap_id ((j : Int) + 1) (by omega) (by omega), xorL_step s t j n (by omega)]
    exact straight_loop s t n hn hn2 hs ht d (j + 1) (by omega)
theorem SumsStraight_ev (s t : ByteArray) (hs : s.size ≤ 140737488351232) (ht : t.size ≤ 140737488351232) : Ev (fun k => lacquerlaw03_SumsStraight.f k s t) true := by
  unfold lacquerlaw03_SumsStraight.f
  have e : mn (s.size : Int) (t.size : Int) = ((min s.size t.size : Nat) : Int) := by unfold mn; split <;> omega
  have e1 : (0 : Int) ≤ ((min s.size t.size : Nat) : Int) := by omega
  have e2 : min s.size t.size ≤ 281474976710656 := by omega
  simp only [e, e1, Int.toNat_natCast, e2, if_true]
  have := straight_loop s t (min s.size t.size) (by omega) (by omega) hs ht (min s.size t.size) 0 (by omega)
  simpa [xorL] using this
end Go.Proofs.Ytmpkomhcihgphaa.Math
