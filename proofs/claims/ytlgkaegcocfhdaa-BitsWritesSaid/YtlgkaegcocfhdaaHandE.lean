/- Contracts of layer 1, proved by hand: fold, fits; a writer's Signed, Unary, Rice, Align. -/
import Derived.Test.YtlgkaegcocfhdaaHandD
import Derived.Test.YtlgkaegcocfhdaaQx2
namespace Go.Proofs.Ytlgkaegcocfhdaa.Hand
open Go.RowKit Go.Proofs.Ytlgkaegcocfhdaa.Q Go.Proofs.YtlgkaegcocfhdaaW.PrintWords Go.Proofs.YtlgkaegcocfhdaaW.PrintLast Go.Proofs.YtlgkaegcocfhdaaW.PrintMore
set_option linter.unusedVariables false
set_option linter.unusedSimpArgs false

/-- A number of either sign as one from 0 on. -/
def foldN (n : Int) : Nat := if 0 ≤ n then (2 * n).toNat else (-2 * n - 1).toNat
theorem foldN_lt (n : Int) (h0 : -9223372036854775808 ≤ n) (h1 : n ≤ 9223372036854775807) : foldN n < 18446744073709551616 := by
  unfold foldN
  split <;> omega
theorem bits_xor_u64 (x y : Int) : Go.bits .xor .u64 x y = IntKind.u64.wrap ((BitVec.ofInt 64 x ^^^ BitVec.ofInt 64 y).toNat : Int) := rfl
theorem fold_bits (n : Int) (h0 : -9223372036854775808 ≤ n) (h1 : n ≤ 9223372036854775807) : Go.bits .xor .u64 (IntKind.u64.wrap ((IntKind.u64.wrap n) * 2)) (IntKind.u64.wrap (n / 9223372036854775808)) = (foldN n : Int) := by
  rw [bits_xor_u64]
  by_cases h : 0 ≤ n
  · have e1 : n / 9223372036854775808 = 0 := by omega
    have e2 : IntKind.u64.wrap (IntKind.u64.wrap n * 2) = ((foldN n : Nat) : Int) := by
      unfold foldN
      rw [if_pos h, u64_wrap, u64_wrap]
      omega
    have hlt := foldN_lt n h0 h1
    rw [e1, e2, show IntKind.u64.wrap 0 = 0 from rfl, show BitVec.ofInt 64 0 = 0#64 from rfl, BitVec.xor_zero, BitVec.toNat_ofInt, u64_wrap]
    omega
  · have e1 : n / 9223372036854775808 = -1 := by omega
    have e2 : IntKind.u64.wrap (IntKind.u64.wrap n * 2) = 2 * n + 18446744073709551616 := by
      rw [u64_wrap, u64_wrap]
      omega
    have hlt := foldN_lt n h0 h1
    rw [e1, e2, show BitVec.ofInt 64 (IntKind.u64.wrap (-1)) = BitVec.allOnes 64 by decide, BitVec.xor_allOnes, BitVec.toNat_not, BitVec.toNat_ofInt, u64_wrap]
    unfold foldN
    rw [if_neg h]
    omega
theorem fold_any (n : Int) (h0 : -9223372036854775808 ≤ n) (h1 : n ≤ 9223372036854775807) (w : World) : Calls Try.prog 35 #[.int .i64 n] w fun e w' => e = .returned (.int .u64 (foldN n)) ∧ Drawn0 w w' := by
  refine bits_fold.calls n _ w ?_
  unfold bits_fold.f
  rw [fold_bits n h0 h1]
instance (n k : Int) : Decidable (fitsP n k) := by unfold fitsP; infer_instance
theorem fits_any (n k : Int) (h0 : -9223372036854775808 ≤ n) (h1 : n ≤ 9223372036854775807) (w : World) : Calls Try.prog 48 #[.int .i64 n, .int .i64 k] w fun e w' => e = .returned (.bool (decide (fitsP n k))) ∧ Drawn0 w w' := by
  refine bits_fits.calls n k _ w ?_
  unfold bits_fits.f
  by_cases a : k ≥ 1
  · by_cases b : k ≤ 64
    · rw [if_pos a, if_pos b, wrap_id (k - 1) (by omega) (by omega), if_pos (by omega)]
      congr 1
      have hs : shr .i64 n (k - 1) = n / 2 ^ (k - 1).toNat := by
        unfold shr
        rw [Nat.min_eq_left (by simp [IntKind.bits]; omega)]
      rw [hs, fits_shift n (k - 1).toNat h0 (by omega)]
      by_cases c : -(2 ^ (k - 1).toNat) ≤ n ∧ n < 2 ^ (k - 1).toNat
      · rw [decide_eq_true c, decide_eq_true (show fitsP n k from ⟨a, b, c.1, c.2⟩)]
      · rw [decide_eq_false c, decide_eq_false (show ¬ fitsP n k from fun q => c ⟨q.2.2.1, q.2.2.2⟩)]
    · rw [if_pos a, if_neg b, decide_eq_false (show ¬ fitsP n k from fun q => b q.2.1)]
  · rw [if_neg a, decide_eq_false (show ¬ fitsP n k from fun q => a q.1)]
/-- The number in 64 bits. -/
def wordN (n : Int) : Nat := (n % 18446744073709551616).toNat
theorem wordN_lt (n : Int) : wordN n < 18446744073709551616 := by unfold wordN; omega
theorem wordN_eq (n : Int) : IntKind.u64.wrap n = (wordN n : Int) := by rw [u64_wrap]; unfold wordN; omega
set_option maxHeartbeats 4000000 in
set_option maxRecDepth 100000 in
theorem Signed_nil (n k : Int) (w : World) : Calls Try.prog 32 #[.pointer none, .int .i64 n, .int .i64 k] w fun e w' => e = .returned (.int .i64 1) ∧ Drawn0 w w' := by
  have hup := Try.underlying22
  go_enter Try.func32, Try.ntmps32
  go_wp2
  go_ret
  exact ⟨rfl, Drawn0.refl _⟩
set_option maxHeartbeats 4000000 in
set_option maxRecDepth 100000 in
theorem Signed_no (n k : Int) (h0 : -9223372036854775808 ≤ n) (h1 : n ≤ 9223372036854775807) (hf : ¬ fitsP n k) (g : Nat) (w : World) :
    Calls Try.prog 32 #[.pointer (some ⟨g, 0, none⟩), .int .i64 n, .int .i64 k] w fun e w' => e = .returned (.int .i64 11) ∧ Drawn0 w w' := by
  have hup := Try.underlying22
  have hc := fits_any n k h0 h1
  rw [decide_eq_false hf] at hc
  have HC := Aside0.mk hc
  clear hc hf
  go_enter Try.func32, Try.ntmps32
  go_wp2_with fail
  refine (HC.out _).mono ?_
  rintro e w1 ⟨rfl, hd⟩
  have HD := Aside0.mk hd
  clear hd
  go_wp2
  go_ret
  exact ⟨rfl, HD.out⟩
set_option maxHeartbeats 4000000 in
set_option maxRecDepth 100000 in
theorem Signed_yes (n : Int) (K : Nat) (h0 : -9223372036854775808 ≤ n) (h1 : n ≤ 9223372036854775807) (hf : fitsP n K) (bs : List Bool) (B g : Nat) (v : Value) (w : World) (h : WAt w B g v bs) (hl : bs.length + 64 < 1125899906842624) :
    Calls Try.prog 32 #[.pointer (some ⟨g, 0, none⟩), .int .i64 n, .int .i64 K] w fun e w' => e = .returned (.int .i64 0) ∧ ∃ v', WAt w' B g v' (bs ++ nbits (wordN n) K) ∧ Moved B g w v w' v' := by
  have hup := Try.underlying22
  have hc := fits_any n K h0 h1
  rw [decide_eq_true hf] at hc
  have HC := Aside0.mk hc
  have hw := wordN_eq n
  have H := Aside0.mk h
  have hK : K ≤ 64 := by have := hf.2.1; omega
  clear hc hf h
  go_enter Try.func32, Try.ntmps32
  go_wp2_with fail
  refine (HC.out _).mono ?_
  rintro e w1 ⟨rfl, ⟨m, rfl⟩⟩
  have H1 := Aside0.mk (H.out.below (pw_below_drewN (Below.refl _ _) m))
  have HM1 := Aside0.mk ((Moved.refl B g w v).drewN m)
  generalize w.drewN m = w1 at H1 HM1 ⊢
  go_wp2_with fail
  refine (lay_any (wordN n) K bs (wordN_lt n) hK B g v w1 H1.out hl).mono ?_
  rintro e w2 ⟨rfl, v2, hE, hM⟩
  have HE := Aside0.mk hE
  have HM := Aside0.mk (HM1.out.trans hM)
  clear hE hM
  go_wp2
  go_ret
  exact ⟨rfl, v2, HE.out, HM.out⟩
set_option maxHeartbeats 4000000 in
set_option maxRecDepth 100000 in
theorem Unary_nil (n : Int) (w : World) : Calls Try.prog 33 #[.pointer none, .int .i64 n] w fun e w' => e = .returned (.int .i64 1) ∧ Drawn0 w w' := by
  have hup := Try.underlying22
  go_enter Try.func33, Try.ntmps33
  go_wp2
  go_ret
  exact ⟨rfl, Drawn0.refl _⟩
set_option maxHeartbeats 4000000 in
set_option maxRecDepth 100000 in
theorem Unary_no (n : Int) (h : n < 0 ∨ 16777216 < n) (g : Nat) (w : World) : Calls Try.prog 33 #[.pointer (some ⟨g, 0, none⟩), .int .i64 n] w fun e w' => e = .returned (.int .i64 11) ∧ Drawn0 w w' := by
  have hup := Try.underlying22
  rcases h with h | h
  · go_enter Try.func33, Try.ntmps33
    go_wp2
    go_ret
    exact ⟨rfl, Drawn0.refl _⟩
  · have h' : ¬ n < 0 := by omega
    go_enter Try.func33, Try.ntmps33
    go_wp2
    go_ret
    exact ⟨rfl, Drawn0.refl _⟩
set_option maxHeartbeats 4000000 in
set_option maxRecDepth 100000 in
theorem Unary_yes (N : Nat) (hN : N ≤ 16777216) (bs : List Bool) (B g : Nat) (v : Value) (w : World) (h : WAt w B g v bs) (hl : bs.length + 16777300 < 1125899906842624) :
    Calls Try.prog 33 #[.pointer (some ⟨g, 0, none⟩), .int .i64 N] w fun e w' => e = .returned (.int .i64 0) ∧ ∃ v', WAt w' B g v' (noughts bs N ++ [true]) ∧ Moved B g w v w' v' := by
  have hup := Try.underlying22
  have HCT := Aside0.mk (unary_any N bs hN B g v w h hl)
  have n1 : ¬ (N : Int) < 0 := by omega
  have n2 : (N : Int) ≤ 16777216 := by omega
  clear h
  go_enter Try.func33, Try.ntmps33
  go_wp2_with fail
  refine HCT.out.mono ?_
  rintro e w2 ⟨rfl, v2, hE, hM⟩
  have HE := Aside0.mk hE
  have HM := Aside0.mk hM
  clear hE hM
  go_wp2
  go_ret
  exact ⟨rfl, v2, HE.out, HM.out⟩
/-- How many noughts bring bits to whole bytes. -/
def padN (n : Nat) : Nat := (8 - n % 8) % 8
set_option maxHeartbeats 4000000 in
set_option maxRecDepth 100000 in
theorem Align_nil (w : World) : Calls Try.prog 34 #[.pointer none] w fun e w' => e = .returned (.tuple #[]) ∧ Drawn0 w w' := by
  have hup := Try.underlying22
  go_enter Try.func34, Try.ntmps34
  go_wp2
  refine bodyPost_end (results_none rfl _ _ _) rfl ?_
  exact ⟨rfl, Drawn0.refl _⟩
set_option maxHeartbeats 4000000 in
set_option maxRecDepth 100000 in
theorem Align_any (bs : List Bool) (B g : Nat) (v : Value) (w : World) (h : WAt w B g v bs) (hl : bs.length + 64 < 1125899906842624) :
    Calls Try.prog 34 #[.pointer (some ⟨g, 0, none⟩)] w fun e w' => e = .returned (.tuple #[]) ∧ ∃ v', WAt w' B g v' (noughts bs (padN bs.length)) ∧ Moved B g w v w' v' := by
  have hup := Try.underlying22
  have H := Aside0.mk h
  have c0 : w.cell? ⟨g, 0, none⟩ = some (.int .i64 bs.length) := blk_cell h.1 0
  have f0 : w.frozen? ⟨g, 0, none⟩ = false := blk_frozen h.1 0
  obtain ⟨r, hr⟩ : ∃ r, bs.length % 8 = r := ⟨_, rfl⟩
  obtain ⟨q, hq⟩ : ∃ q, 8 - r = q := ⟨_, rfl⟩
  obtain ⟨p, hp⟩ : ∃ p, padN bs.length = p := ⟨_, rfl⟩
  have et : (bs.length : Int).tmod 8 = (r : Int) := by rw [← hr, Int.tmod_eq_emod_of_nonneg (by omega)]; omega
  have e2 : IntKind.i64.wrap (8 - (r : Int)) = (q : Int) := by rw [IntKind.wrap_i64]; omega
  have e3 : (q : Int).tmod 8 = (p : Int) := by
    rw [Int.tmod_eq_emod_of_nonneg (by omega), ← hp]
    unfold padN
    rw [hr, hq]
    omega
  have hp8 : p < 8 := by rw [← hp]; unfold padN; omega
  have HP := Aside0.mk hp
  clear h hr hq hp
  go_enter Try.func34, Try.ntmps34
  go_wp2
  go_still_tail 10, (by kernel_rfl)
  still_call (at_still g _ _ c0)
  repeat still_step
  refine wpStill_nil ?_
  have H2 : Aside0 (WAt w.drew B g v bs) := ⟨H.out.below (below_drew (Below.refl _ _))⟩
  have HM2 : Aside0 (Moved B g w v w.drew v) := ⟨(Moved.refl B g w v).drew⟩
  change wpList _ _ _ _ _ w.drew
  generalize w.drew = wz at H2 HM2 ⊢
  go_wp2_with fail
  refine (on_any g bs.length p wz (blk_cell H2.out.1 0) (blk_frozen H2.out.1 0) (by omega) (by omega) (by omega) (by omega)).mono ?_
  rintro e w' ⟨rfl, rfl⟩
  go_wp2
  refine bodyPost_end (results_none rfl _ _ _) rfl ?_
  refine ⟨rfl, v, ?_, HM2.out.set H.out.2.2 0 _⟩
  rw [HP.out]
  have hp2 := HP.out
  unfold WAt noughts
  rw [pack_align bs p (by rw [← hp2]; unfold padN; omega) (by rw [← hp2]; unfold padN; omega), List.length_append, List.length_replicate]
  exact H2.out.count
end Go.Proofs.Ytlgkaegcocfhdaa.Hand
