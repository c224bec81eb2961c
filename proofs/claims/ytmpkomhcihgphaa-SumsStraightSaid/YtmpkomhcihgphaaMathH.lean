/- The plain law of SumsAll. -/
import Derived.Test.YtmpkomhcihgphaaMathG
namespace Go.Proofs.Ytmpkomhcihgphaa.Math
open Go.RowKit Go.Proofs.Ytmpkomhcihgphaa Go.Proofs.Ytmpkomhcihgphaa.Q Go.Proofs.YtmpkomhcihgphaaW.PrintWords Go.Proofs.YtmpkomhcihgphaaW.PrintLast Go.Proofs.YtmpkomhcihgphaaW.PrintMore
set_option linter.unusedVariables false
set_option linter.unusedSimpArgs false

theorem rsum_all (s : ByteArray) (hs : s.size < 9223372036854775807) (b : Nat) (hb : b - 1 < 32) (P M : B32) (h : ∀ X y, refByte b P M (X &&& M) y = addHB b P X y &&& M) :
    Ev (fun k => lacquerref03_sum.l0 k s (int P) (int (BitVec.twoPow 32 (b - 1))) (int M) 0 0) (int ((bytes s).foldl (addHB b P) 0#32 &&& M)) := by
  have e := rsum s b hb P M hs (bytes s).length 0 (by omega) (0#32 &&& M)
  rw [List.drop_zero, fold_mask (addHB b P) (refByte b P M) M h] at e
  have z : int (0#32 &&& M) = 0 := by rw [BitVec.zero_and]; rfl
  rw [z] at e
  exact e
theorem rCrc8_ev (s : ByteArray) (hs : s.size < 9223372036854775807) : Ev (fun k => lacquerref03_Crc8.f k s) (Hand.sumF 8 s) := by
  rw [sum8]
  unfold lacquerref03_Crc8.f lacquerref03_sum.f
  refine Ev.bind ?_ (Ev.now _)
  have a1 : (0 : Int) ≤ IntKind.u64.wrap (wrap64 (8 - 1)) := by decide +kernel
  have a2 : (0 : Int) ≤ IntKind.u64.wrap 8 := by decide +kernel
  have a3 : shl .i64 1 (IntKind.u64.wrap (wrap64 (8 - 1))) = int (BitVec.twoPow 32 (8 - 1)) := by decide +kernel
  have a4 : wrap64 (shl .i64 1 (IntKind.u64.wrap 8) - 1) = int 255#32 := by decide +kernel
  simp only [a1, a2, if_true, a3, a4]
  have p : (7 : Int) = int 7#32 := by decide +kernel
  rw [p]
  exact rsum_all s hs 8 (by decide) 7#32 255#32 eq8
theorem rCrc16_ev (s : ByteArray) (hs : s.size < 9223372036854775807) : Ev (fun k => lacquerref03_Crc16.f k s) (Hand.sumF 16 s) := by
  rw [sum16]
  unfold lacquerref03_Crc16.f lacquerref03_sum.f
  refine Ev.bind ?_ (Ev.now _)
  have a1 : (0 : Int) ≤ IntKind.u64.wrap (wrap64 (16 - 1)) := by decide +kernel
  have a2 : (0 : Int) ≤ IntKind.u64.wrap 16 := by decide +kernel
  have a3 : shl .i64 1 (IntKind.u64.wrap (wrap64 (16 - 1))) = int (BitVec.twoPow 32 (16 - 1)) := by decide +kernel
  have a4 : wrap64 (shl .i64 1 (IntKind.u64.wrap 16) - 1) = int 65535#32 := by decide +kernel
  simp only [a1, a2, if_true, a3, a4]
  have p : (32773 : Int) = int 32773#32 := by decide +kernel
  rw [p]
  exact rsum_all s hs 16 (by decide) 32773#32 65535#32 eq16
theorem rOgg_ev (s : ByteArray) (hs : s.size < 9223372036854775807) : Ev (fun k => lacquerref03_Ogg.f k s) (Hand.sumF 32 s) := by
  rw [sum32]
  unfold lacquerref03_Ogg.f lacquerref03_sum.f
  refine Ev.bind ?_ (Ev.now _)
  have a1 : (0 : Int) ≤ IntKind.u64.wrap (wrap64 (32 - 1)) := by decide +kernel
  have a2 : (0 : Int) ≤ IntKind.u64.wrap 32 := by decide +kernel
  have a3 : shl .i64 1 (IntKind.u64.wrap (wrap64 (32 - 1))) = int (BitVec.twoPow 32 (32 - 1)) := by decide +kernel
  have a4 : wrap64 (shl .i64 1 (IntKind.u64.wrap 32) - 1) = int 4294967295#32 := by decide +kernel
  simp only [a1, a2, if_true, a3, a4]
  have p : (79764919 : Int) = int 79764919#32 := by decide +kernel
  rw [p]
  exact rsum_all s hs 32 (by decide) 79764919#32 4294967295#32 eq32
theorem low_bit (R : B32) : (Go.bits .and .i64 (int R) 1 = 1) ↔ R.getLsbD 0 = true := by
  rw [show (1 : Int) = int 1#32 from rfl, and64]
  have e2 : R &&& 1#32 = if R.getLsbD 0 then 1#32 else 0#32 := by
    have := BitVec.and_twoPow R 0
    exact this
  rw [e2]
  cases R.getLsbD 0
  · simp [int]
  · simp
theorem lbit (s : ByteArray) (P R : B32) (hP : P = 3988292384#32) (i : Nat) (kk : Nat) (hk : kk < 8) (v : Int)
    (next : Ev (fun k => lacquerref03_Crc32.l1 k s (int (bitL P R)) (i : Int) ((kk + 1 : Nat) : Int)) v) :
    Ev (fun k => lacquerref03_Crc32.l1 k s (int R) (i : Int) (kk : Int)) v := by
  subst hP
  refine Ev.step (fun k => lacquerref03_Crc32.l1.eq_2 _ _ _ _ _) ?_
  have e1 : int R / (2 : Int) = int (R >>> 1) := by
    have h := shr32 R 1
    rw [show (2 : Int) ^ 1 = 2 from rfl] at h
    exact h
  have e2 : Go.bits .xor .i64 (int (R >>> 1)) 3988292384 = int (R >>> 1 ^^^ 3988292384#32) := by rw [show (3988292384 : Int) = int 3988292384#32 by decide +kernel, xor64]
  simp only [show ((kk : Int) < 8) by omega, if_true, low_bit, e1, e2, wrap_id ((kk : Int) + 1) (by omega) (by omega)]
  revert next
  unfold bitL
  cases R.getLsbD 0 <;> simp
theorem lbyte (s : ByteArray) (P R : B32) (hP : P = 3988292384#32) (i : Nat) (hi : i < (bytes s).length) (hs : s.size < 9223372036854775807) (v : Int)
    (next : Ev (fun k => lacquerref03_Crc32.l0 k s (int (refByteL P R (bytes s)[i])) ((i : Int) + 1)) v) :
    Ev (fun k => lacquerref03_Crc32.l0 k s (int R) (i : Int)) v := by
  refine Ev.step (fun k => lacquerref03_Crc32.l0.eq_2 _ _ _ _) ?_
  have hi2 := hi
  rw [bytes_length] at hi2
  have hR := int_lt ((bytes s)[i].setWidth 32)
  simp only [show ((i : Int) < (s.size : Int)) by omega, show (0 : Int) ≤ (i : Int) by omega, if_true, bt_bits s i hi, int8_32, wrap_id (int ((bytes s)[i].setWidth 32)) (by omega) (by omega), xor64]
  refine lbit s P _ hP i 0 (by decide) v ?_
  refine lbit s P _ hP i 1 (by decide) v ?_
  refine lbit s P _ hP i 2 (by decide) v ?_
  refine lbit s P _ hP i 3 (by decide) v ?_
  refine lbit s P _ hP i 4 (by decide) v ?_
  refine lbit s P _ hP i 5 (by decide) v ?_
  refine lbit s P _ hP i 6 (by decide) v ?_
  refine lbit s P _ hP i 7 (by decide) v ?_
  refine Ev.step (fun k => lacquerref03_Crc32.l1.eq_2 _ _ _ _ _) ?_
  simp only [show ¬ (((7 + 1 : Nat) : Int) < 8) by decide, if_false, wrap_id ((i : Int) + 1) (by omega) (by omega)]
  exact next
theorem lsum (s : ByteArray) (hs : s.size < 9223372036854775807) : ∀ d i : Nat, i + d = (bytes s).length → ∀ R : B32,
    Ev (fun k => lacquerref03_Crc32.l0 k s (int R) (i : Int)) (int (4294967295#32 ^^^ ((bytes s).drop i).foldl (addLB 3988292384#32) R))
  | 0, i, e, R => by
    refine Ev.step (fun k => lacquerref03_Crc32.l0.eq_2 _ _ _ _) ?_
    rw [bytes_length] at e
    simp only [show ¬ ((i : Int) < (s.size : Int)) by omega, if_false]
    rw [List.drop_of_length_le (by rw [bytes_length]; omega), List.foldl_nil, show (4294967295 : Int) = int 4294967295#32 by decide +kernel, xor64, BitVec.xor_comm]
    exact Ev.now _
  | d + 1, i, e, R => by
    have hi : i < (bytes s).length := by omega
    refine lbyte s _ R rfl i hi hs _ ?_
    have := lsum s hs d (i + 1) (by omega) (refByteL 3988292384#32 R (bytes s)[i])
    rw [List.drop_eq_getElem_cons hi, List.foldl_cons, ← eqL]
    exact this
theorem rCrc32_ev (s : ByteArray) (hs : s.size < 9223372036854775807) : Ev (fun k => lacquerref03_Crc32.f k s) (Hand.sumF 33 s) := by
  rw [sum33]
  unfold lacquerref03_Crc32.f
  have e := lsum s hs (bytes s).length 0 (by omega) 4294967295#32
  rw [List.drop_zero] at e
  have z : int 4294967295#32 = 4294967295 := by decide +kernel
  rw [z] at e
  exact e
theorem of_f (k : Int) (s : ByteArray) (hk : Hand.isKind k) (hs : s.size ≤ 140737488351232) : sums_of.f k s = some (Hand.sumF k s) := if_pos ⟨hk, by unfold maxLen; omega⟩
theorem all_of {x8 x16 x32 x33 : Int} {s8 s16 s32 s33 : Option Int} {r8 r16 r32 r33 : Nat → Option Int} (h8 : s8 = some x8) (h16 : s16 = some x16) (h32 : s32 = some x32) (h33 : s33 = some x33) (e8 : Ev r8 x8) (e16 : Ev r16 x16) (e32 : Ev r32 x32) (e33 : Ev r33 x33) :
    Ev (fun k => s8.bind fun t108 => ((r8 k).bind fun t109 => (if t108 = t109 then (s16.bind fun t110 => ((r16 k).bind fun t111 => (if t110 = t111 then (s32.bind fun t112 => ((r32 k).bind fun t113 => (if t112 = t113 then (s33.bind fun t114 => ((r33 k).bind fun t115 => (if t114 = t115 then ((some true).bind fun t116 => (some t116)) else (none)))) else (none)))) else (none)))) else (none)))) true := by
  subst h8 h16 h32 h33
  simp only [Option.bind_some]
  refine Ev.bind e8 ?_
  simp only [if_true]
  refine Ev.bind e16 ?_
  simp only [if_true]
  refine Ev.bind e32 ?_
  simp only [if_true]
  refine Ev.bind e33 ?_
  simp only [if_true]
  exact Ev.now _
theorem of_s (k : Int) (s : ByteArray) (hk : Hand.isKind k) (hs : s.size ≤ 140737488351232) : (sums_of.f k s).bind (fun t => some t) = some (Hand.sumF k s) := by rw [of_f k s hk hs]; rfl
theorem SumsAll_ev (s : ByteArray) (hs : s.size ≤ 140737488351232) : Ev (fun k => lacquerlaw03_SumsAll.f k s) true :=
  all_of (of_s 8 s (by decide) hs) (of_s 16 s (by decide) hs) (of_s 32 s (by decide) hs) (of_s 33 s (by decide) hs) (rCrc8_ev s (by omega)) (rCrc16_ev s (by omega)) (rOgg_ev s (by omega)) (rCrc32_ev s (by omega))
end Go.Proofs.Ytmpkomhcihgphaa.Math
