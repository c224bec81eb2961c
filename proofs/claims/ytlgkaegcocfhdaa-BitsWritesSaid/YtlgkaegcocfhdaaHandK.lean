/- Contracts of layer 1, proved by hand: a reader's Rice. -/
import Derived.Test.YtlgkaegcocfhdaaHandJ
import Derived.Test.YtlgkaegcocfhdaaHandE
namespace Go.Proofs.Ytlgkaegcocfhdaa.Hand
open Go.RowKit Go.Proofs.YtlgkaegcocfhdaaW.PrintWords Go.Proofs.YtlgkaegcocfhdaaW.PrintLast Go.Proofs.YtlgkaegcocfhdaaW.PrintMore
set_option linter.unusedVariables false
set_option linter.unusedSimpArgs false

theorem unaryR_err (s : ByteArray) (p : Nat) (h : ¬ (unaryR s p).2.1 = 0) : (unaryR s p).2.2 = p ∧ (unaryR s p).1 = 0 := by
  unfold unaryR at h ⊢
  split
  · exact ⟨rfl, rfl⟩
  · split
    · exact ⟨rfl, rfl⟩
    · rename_i h1 h2
      rw [if_neg h1, if_neg h2] at h
      exact absurd rfl h
theorem unaryR_ok (s : ByteArray) (p : Nat) (hp : p ≤ 8 * s.size) (h : (unaryR s p).2.1 = 0) : (unaryR s p).1 ≤ 16777216 ∧ (unaryR s p).2.2 = p + (unaryR s p).1 + 1 ∧ (unaryR s p).2.2 ≤ 8 * s.size := by
  have hz := zeros_le s (8 * s.size - p) p
  unfold unaryR at h ⊢
  by_cases h1 : 16777216 < zeros s p (8 * s.size - p)
  · rw [if_pos h1] at h; cases h
  · rw [if_neg h1] at h ⊢
    by_cases h2 : zeros s p (8 * s.size - p) = 8 * s.size - p
    · rw [if_pos h2] at h; cases h
    · rw [if_neg h2]
      exact ⟨by omega, rfl, by show p + zeros s p (8 * s.size - p) + 1 ≤ _; omega⟩
theorem unaryR_at (s : ByteArray) (p : Nat) (hp : p ≤ 8 * s.size) : (unaryR s p).2.2 ≤ 8 * s.size := by
  by_cases h : (unaryR s p).2.1 = 0
  · exact (unaryR_ok s p hp h).2.2
  · rw [(unaryR_err s p h).1]; exact hp
/-- A number from 0 on as one of either sign. -/
def unfoldN (u : Nat) : Int := if u % 2 = 0 then ((u / 2 : Nat) : Int) else -((u / 2 : Nat) : Int) - 1
theorem unfold_fold (n : Int) : unfoldN (foldN n) = n := by
  unfold unfoldN foldN
  split <;> split <;> omega
theorem unfold_bits (x b : Nat) (hx : x < 9223372036854775808) (hb : b < 2) : Go.bits .xor .i64 (x : Int) (-(b : Int)) = unfoldN (2 * x + b) := by
  have e : Go.bits .xor .i64 (x : Int) (-(b : Int)) = IntKind.i64.wrap ((BitVec.ofInt 64 (x : Int) ^^^ BitVec.ofInt 64 (-(b : Int))).toNat : Int) := rfl
  have e1 : (BitVec.ofInt 64 (x : Int)).toNat = x := by rw [BitVec.toNat_ofInt]; omega
  rw [e]
  unfold unfoldN
  have hb2 : b = 0 ∨ b = 1 := by omega
  rcases hb2 with rfl | rfl
  · rw [show BitVec.ofInt 64 (-((0 : Nat) : Int)) = 0#64 by decide, BitVec.xor_zero, e1, if_pos (by omega), IntKind.wrap_i64]
    omega
  · rw [show BitVec.ofInt 64 (-((1 : Nat) : Int)) = BitVec.allOnes 64 by decide, BitVec.xor_allOnes, BitVec.toNat_not, e1, if_neg (by omega), IntKind.wrap_i64]
    omega
theorem or_part (q K l : Nat) (hl : l < 2 ^ K) (h : q * 2 ^ K + l < 18446744073709551616) : Go.bits .or .u64 ((q : Int) * 2 ^ K) (l : Int) = ((q * 2 ^ K + l : Nat) : Int) := by
  have e : Go.bits .or .u64 ((q : Int) * 2 ^ K) (l : Int) = IntKind.u64.wrap ((BitVec.ofInt 64 ((q : Int) * 2 ^ K) ||| BitVec.ofInt 64 (l : Int)).toNat : Int) := rfl
  have hp : (q : Int) * 2 ^ K = ((q * 2 ^ K : Nat) : Int) := by simp
  have e1 : (BitVec.ofInt 64 ((q * 2 ^ K : Nat) : Int)).toNat = q <<< K := by rw [BitVec.toNat_ofInt, Nat.shiftLeft_eq]; omega
  have e2 : (BitVec.ofInt 64 (l : Int)).toNat = l := by rw [BitVec.toNat_ofInt]; omega
  rw [e, hp, BitVec.toNat_or, e1, e2, ← Nat.shiftLeft_add_eq_or_of_lt hl, Nat.shiftLeft_eq, u64_wrap]
  omega
/-- What a reader's Rice gives. -/
def riceR (s : ByteArray) (p : Nat) (k : Int) : Int × Int × Nat :=
  if k < 0 ∨ 30 < k then (0, 11, p)
  else if (unaryR s p).2.1 = 0 then
    (if (getR s (unaryR s p).2.2 k).2.1 = 0 then (unfoldN ((unaryR s p).1 * 2 ^ k.toNat + (getR s (unaryR s p).2.2 k).1), 0, (getR s (unaryR s p).2.2 k).2.2)
     else (0, (getR s (unaryR s p).2.2 k).2.1, p))
  else (0, (unaryR s p).2.1, p)
set_option maxHeartbeats 1000000 in
theorem RiceR_nil (k : Int) (w : World) : Calls Try.prog 21 #[.pointer none, .int .i64 k] w fun e w' => e = .returned (.tuple #[.int .i64 0, .int .i64 1]) ∧ Drawn0 w w' := by
  have hup := Try.underlying36
  go_enter Try.func21, Try.ntmps21
  go_wp2
  go_ret2
  exact ⟨rfl, Drawn0.refl _⟩
theorem RAt.new {w : World} {g p : Nat} {s : ByteArray} (h : RAt w g s p) (o : Obj) : RAt (w.alloc o) g s p := h.below (below_alloc (Below.refl _ _) o)
theorem Turned.alloc {B g : Nat} {w w1 : World} (h : Turned B g w w1) (hB : B ≤ w1.heap.size) (o : Obj) : Turned B g w (w1.alloc o) := h.new (below_alloc (Below.refl _ _) o) hB
set_option maxHeartbeats 4000000 in
set_option maxRecDepth 100000 in
theorem RiceR_any (s : ByteArray) (hs : s.size ≤ 281474976710656) (p : Nat) (hp : p ≤ 8 * s.size) (k : Int) (B g : Nat) (hB : B ≤ g) (w : World) (h : RAt w g s p) :
    Calls Try.prog 21 #[.pointer (some ⟨g, 0, none⟩), .int .i64 k] w fun e w' => e = .returned (.tuple #[.int .i64 (riceR s p k).1, .int .i64 (riceR s p k).2.1]) ∧ RAt w' g s (riceR s p k).2.2 ∧ Turned B g w w' := by
  have hup := Try.underlying36
  have HR := Aside0.mk h
  have c0 := h.place
  have hg := h.lt
  clear h
  by_cases h1 : k < 0
  · have he : riceR s p k = (0, 11, p) := if_pos (.inl h1)
    rw [he]
    clear he
    go_enter Try.func21, Try.ntmps21
    go_wp2
    go_ret2
    exact ⟨rfl, HR.out, Turned.refl _ _ _⟩
  · by_cases h2 : 30 < k
    · have he : riceR s p k = (0, 11, p) := if_pos (.inr h2)
      rw [he]
      clear he
      go_enter Try.func21, Try.ntmps21
      go_wp2
      go_ret2
      exact ⟨rfl, HR.out, Turned.refl _ _ _⟩
    · have HDEF : Aside0 (riceR s p k = if (unaryR s p).2.1 = 0 then (if (getR s (unaryR s p).2.2 k).2.1 = 0 then (unfoldN ((unaryR s p).1 * 2 ^ k.toNat + (getR s (unaryR s p).2.2 k).1), 0, (getR s (unaryR s p).2.2 k).2.2) else (0, (getR s (unaryR s p).2.2 k).2.1, p)) else (0, (unaryR s p).2.1, p)) := ⟨by unfold riceR; rw [if_neg (by omega)]⟩
      have HW := Aside0.mk (HR.out.new (.cells #[.int .i64 p] 64))
      have HTW := Aside0.mk ((Turned.refl B g w).alloc (by omega) (.cells #[.int .i64 p] 64))
      have HBK := Aside0.mk (blk_new w (.cells #[.int .i64 p] 64))
      have HU := Aside0.mk (UnaryR_any s hs p hp B g hB _ HW.out)
      obtain ⟨bk, hbk⟩ : ∃ bk, w.heap.size = bk := ⟨_, rfl⟩
      have HBG := Aside0.mk (show bk ≠ g by omega)
      rw [hbk] at HBK
      have HBE := Aside0.mk hbk
      by_cases hu0 : (unaryR s p).2.1 = 0
      · obtain ⟨hq1, hq2, hq3⟩ := unaryR_ok s p hp hu0
        rw [if_pos hu0] at HDEF
        rw [hu0] at HU
        generalize (unaryR s p).1 = q at hq1 hq2 HU HDEF
        generalize (unaryR s p).2.2 = p1 at hq2 hq3 HU HDEF
        have HG := Aside0.mk (fun W hW => Get_any s hs p1 hq3 k B g hB W hW)
        by_cases hg0 : (getR s p1 k).2.1 = 0
        · obtain ⟨k0, k1, hgr⟩ := getR_ok s p1 k hg0
          rw [if_pos hg0] at HDEF
          rw [hgr] at HG HDEF
          have hlt := numAt_lt s p1 k.toNat
          obtain ⟨K, rfl⟩ : ∃ K : Nat, k = (K : Int) := ⟨k.toNat, by omega⟩
          rw [Int.toNat_natCast] at hlt HG HDEF
          have HDEF2 : Aside0 (riceR s p K = (unfoldN (q * 2 ^ K + numAt s p1 K), 0, p1 + K)) := HDEF
          clear HDEF
          generalize numAt s p1 K = l at hlt HG HDEF2
          have hK : K ≤ 30 := by omega
          have hpow : 2 ^ K ≤ 2 ^ 30 := Nat.pow_le_pow_right (by decide) hK
          have hq4 : q * 2 ^ K ≤ 16777216 * 2 ^ 30 := Nat.mul_le_mul hq1 hpow
          have hor := or_part q K l hlt (by omega)
          have hwr : IntKind.u64.wrap ((q : Int) * 2 ^ K) = (q : Int) * 2 ^ K := by
            have hp : (q : Int) * 2 ^ K = ((q * 2 ^ K : Nat) : Int) := by simp
            rw [hp]
            generalize q * 2 ^ K = y at hq4
            rw [u64_wrap]
            omega
          obtain ⟨u, hu⟩ : ∃ u, q * 2 ^ K + l = u := ⟨_, rfl⟩
          rw [hu] at hor HDEF2
          have hu1 : u < 36028797018963968 := by omega
          obtain ⟨x, hx⟩ : ∃ x, u / 2 = x := ⟨_, rfl⟩
          obtain ⟨b, hb⟩ : ∃ b, u % 2 = b := ⟨_, rfl⟩
          have hun := unfold_bits x b (by omega) (by omega)
          rw [show 2 * x + b = u by omega] at hun
          have ha := and_mask_u64 1 (by decide) (u : Int) 1 (by omega) (by omega) rfl
          rw [show (2 : Int) ^ 1 = 2 from rfl, show (u : Int) % 2 = (b : Int) by omega] at ha
          have ex : (u : Int) / 2 = (x : Int) := by omega
          have em : (u : Int) % 2 = (b : Int) := by omega
          have x1 : x < 36028797018963968 := by omega
          have b1 : b < 2 := by omega
          have k30 : (K : Int) ≤ 30 := by omega
          generalize unfoldN u = r at hun HDEF2
          clear hgr hg0 hlt hpow hq4 hu hx hb hu0 hq2 hbk h1 h2
          go_enter Try.func21, Try.ntmps21
          go_wp2_with fail
          refine HU.out.mono ?_
          rintro e w1 ⟨rfl, hr1, ht1⟩
          have HR1 := Aside0.mk hr1
          have HT1 := Aside0.mk (HTW.out.trans ht1)
          clear hr1 ht1
          go_wp2_with fail
          refine (HG.out _ HR1.out).mono ?_
          rintro e w2 ⟨rfl, hr2, ht2⟩
          have HR2 := Aside0.mk hr2
          have HT2 := Aside0.mk (HT1.out.trans ht2)
          clear hr2 ht2
          go_wp2
          go_ret2
          rw [HDEF2.out]
          exact ⟨rfl, HR2.out, HT2.out⟩
        · rw [if_neg hg0] at HDEF
          obtain ⟨e1, e2⟩ := getR_err s p1 k hg0
          rw [e1, e2] at HG
          generalize (getR s p1 k).2.1 = er at HG HDEF hg0
          have hb : (er == 0) = false := by simpa using hg0
          have hb2 : (er != 0) = true := by simpa using hg0
          clear e1 e2 hu0 hq2 hbk
          go_enter Try.func21, Try.ntmps21
          go_wp2_with fail
          refine HU.out.mono ?_
          rintro e w1 ⟨rfl, hr1, ht1⟩
          have HR1 := Aside0.mk hr1
          have HT1 := Aside0.mk (HTW.out.trans ht1)
          have HB1 := Aside0.mk (blk_kept HBK.out ht1.kept HBG.out)
          clear hr1 ht1
          go_wp2_with fail
          refine (HG.out _ HR1.out).mono ?_
          rintro e w2 ⟨rfl, hr2, ht2⟩
          have HR2 := Aside0.mk hr2
          have HT2 := Aside0.mk (HT1.out.trans ht2)
          have c1 : w2.cell? ⟨bk, 0, none⟩ = some (.int .i64 p) := blk_cell (blk_kept HB1.out ht2.kept HBG.out) 0
          have f0 : w2.frozen? ⟨g, 0, none⟩ = false := blk_frozen hr2 0
          have c2 := hr2.place
          rw [← HBE.out] at c1
          clear hr2 ht2
          go_wp2
          go_ret2
          rw [HDEF.out]
          exact ⟨rfl, HR2.out.to, HT2.out.set hB 0 _⟩
      · rw [if_neg hu0] at HDEF
        obtain ⟨e1, e2⟩ := unaryR_err s p hu0
        rw [e1, e2] at HU
        generalize (unaryR s p).2.1 = er at HU HDEF hu0
        have hb : (er == 0) = false := by simpa using hu0
        have hb2 : (er != 0) = true := by simpa using hu0
        clear e1 e2 hbk
        go_enter Try.func21, Try.ntmps21
        go_wp2_with fail
        refine HU.out.mono ?_
        rintro e w1 ⟨rfl, hr1, ht1⟩
        have HR1 := Aside0.mk hr1
        have HT1 := Aside0.mk (HTW.out.trans ht1)
        clear hr1 ht1
        go_wp2
        go_ret2
        rw [HDEF.out]
        exact ⟨rfl, HR1.out, HT1.out⟩
end Go.Proofs.Ytlgkaegcocfhdaa.Hand
