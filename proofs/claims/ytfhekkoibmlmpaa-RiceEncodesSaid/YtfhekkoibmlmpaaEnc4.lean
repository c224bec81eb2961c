/- Texts of this claim's proof, laid behind each other by a program of ours, without what the proof does not reach: Printed by a program of ours (pp.sh), partly over contracts proved by hand; Printed by a program of ours (pp.sh), partly over contracts proved by hand; Contracts of layer 1, proved by hand: fold, fits; a writer's Signed, Unary, Rice, Align; Contracts of layer 1, proved by hand: a writer's Rice; Plain words of layer 1: the bits of a text, and what a reader gives; Contracts of layer 1, proved by hand: a reader's Of, At, Left, peek, Get; Contracts of layer 1, proved by hand: a reader's Get; Contracts of layer 1, proved by hand: a reader's Unary; Contracts of layer 1, proved by hand: a reader's Signed, Align, Rice; Contracts of layer 1, proved by hand: a reader's Rice; Contracts of layer 8, proved by hand: cut; Contracts of layer 8, proved by hand: may; Plain words of layer 8: which recipes may be; the printed functions' answers; Contracts of layer 8, proved by hand: lists that a writer leaves; what Encode writes; Contracts of layer 8, proved by hand: Encode, its beginnings; Contracts of layer 8, proved by hand: Encode; Contracts of layer 8, proved by hand: Encode writes (method 0) -/
import Derived.Laws.StructEq
import Derived.Test.YtfhekkoibmlmpaaEnc1
import Derived.Test.YtfhekkoibmlmpaaEnc2
import Derived.Test.YtfhekkoibmlmpaaEnc3
import Derived.Test.YtfhekkoibmlmpaaEncWApart
import Derived.Test.YtfhekkoibmlmpaaEncWFoot
import Derived.Test.YtfhekkoibmlmpaaEncWGuard
import Derived.Test.YtfhekkoibmlmpaaEncWInv
import Derived.Test.YtfhekkoibmlmpaaEncWKept
import Derived.Test.YtfhekkoibmlmpaaEncWLast
import Derived.Test.YtfhekkoibmlmpaaEncWMore
import Derived.Test.YtfhekkoibmlmpaaEncWN
import Derived.Test.YtfhekkoibmlmpaaEncWRepsOne
import Derived.Test.YtfhekkoibmlmpaaEncWShare
import Derived.Test.YtfhekkoibmlmpaaEncWTab
import Derived.Test.YtfhekkoibmlmpaaEncWWords
/- Printed by a program of ours (pp.sh), partly over contracts proved by hand. -/
namespace Go.Proofs.Ytfhekkoibmlmpaa.Q
open Go.RowKit Go.Proofs.YtfhekkoibmlmpaaW.PrintWords Go.Proofs.YtfhekkoibmlmpaaW.PrintLast Go.Proofs.YtfhekkoibmlmpaaW.PrintMore
attribute [local go_sem] max2_int min2_int max_two min_two max_three min_three max_four min_four   -- for this text's walks alone
set_option linter.unusedVariables false
set_option linter.unusedSimpArgs false

/-! ### lacquerref01_Fits: function 53 -/
def lacquerref01_Fits.j0 : Nat → Int → Int → Bool → Option (Bool)
  | 0, _, _, _ => none
  | k + 1, x0, x1, x11 => if x11 = true then (some false) else (if x1 = 64 then (some true) else (if 0 ≤ (IntKind.u64.wrap (wrap64 (x1 - 1))) then (if x0 ≥ (wrap64 (-(shl .i64 1 (IntKind.u64.wrap (wrap64 (x1 - 1)))))) then (some (decide (x0 ≤ (wrap64 ((shl .i64 1 (IntKind.u64.wrap (wrap64 (x1 - 1)))) - 1))))) else (some false)) else (none)))
def lacquerref01_Fits.f (k : Nat) (a0 : Int) (a1 : Int) : Option (Bool) := if a1 < 1 then (lacquerref01_Fits.j0 k a0 a1 true) else (lacquerref01_Fits.j0 k a0 a1 (decide (a1 > 64)))
set_option maxHeartbeats 8000000 in
set_option maxRecDepth 100000 in
theorem lacquerref01_Fits.calls (k : Nat) (a0 : Int) (a1 : Int) (r : Bool) (w : World) (h : lacquerref01_Fits.f k a0 a1 = some r) :
    Calls Try.prog 53 #[.int .i64 a0, .int .i64 a1] w fun e w' => e = .returned (.bool r) ∧ Drawn0 w w' := by
  have H : (if a1 < 1 then (lacquerref01_Fits.j0 k a0 a1 true) else (lacquerref01_Fits.j0 k a0 a1 (decide (a1 > 64)))) = some r := h
  clear h
  have HC3 := Aside0.mk H
  clear H
  go_enter Try.func53, Try.ntmps53
  go_upto_region 1 with (fail)
  go_cut [11] (fun v11 wc => ∃ (kq : Nat) (x11_2 : Bool), v11 = .bool x11_2 ∧ Aside0 (lacquerref01_Fits.j0 kq a0 a1 x11_2 = some r) ∧ Aside0 (kq ≤ k) ∧ Drawn0 w wc)
  case first =>
    have H := HC3.out
    clear HC3
    by_cases c4 : a1 < 1
    · rw [if_pos c4] at H
      have c4b0 : decide (a1 < 1) = true := decide_eq_true c4
      clear c4
      (first | rw [c4b0] | (simp only [i64_w, i32_w]; rw [c4b0]) | skip)
      have H' := Aside0.mk H
      clear H
      go_wp2
      go_meet
      case rel => exact ⟨_, (true), (by first | rfl | (simp; done) | (simp [*]; done)), H', ⟨by first | omega | exact Nat.le_refl _⟩, by repeat (first | exact Drawn0.refl _ | apply Drawn0.step)⟩
    · rw [if_neg c4] at H
      have c4b0 : decide (a1 < 1) = false := decide_eq_false c4
      clear c4
      (first | rw [c4b0] | (simp only [i64_w, i32_w]; rw [c4b0]) | skip)
      have H' := Aside0.mk H
      clear H
      go_wp2
      go_meet
      case rel => exact ⟨_, (decide (a1 > 64)), (by first | rfl | (simp; done) | (simp [*]; done)), H', ⟨by first | omega | exact Nat.le_refl _⟩, by repeat (first | exact Drawn0.refl _ | apply Drawn0.step)⟩
  case rest =>
    clear HC3
    try clear p2
    try clear c4
    try clear c4b0
    obtain ⟨kq, x11_2, rfl, HA, HJ2, ⟨mc2, rfl⟩⟩ := hcut
    cases kq with
    | zero => exact absurd HA.out (by simp [lacquerref01_Fits.j0])
    | succ kj2 =>
      have H := HA.out
      clear HA
      simp only [lacquerref01_Fits.j0] at H
      by_cases c5 : x11_2 = true
      · subst c5
        have H1 : (some false) = some r := by rw [if_pos rfl] at H; exact H
        clear H
        have H := H1
        clear H1
        obtain rfl := Option.some.inj H
        go_wp2
        go_ret
        exact ⟨by first | rfl | (simp; done) | (simp [*]; done), by repeat (first | exact Drawn0.refl _ | apply Drawn0.step)⟩
      · replace c5 := Bool.eq_false_iff.mpr c5
        subst c5
        have H1 : (if a1 = 64 then (some true) else (if 0 ≤ (IntKind.u64.wrap (wrap64 (a1 - 1))) then (if a0 ≥ (wrap64 (-(shl .i64 1 (IntKind.u64.wrap (wrap64 (a1 - 1)))))) then (some (decide (a0 ≤ (wrap64 ((shl .i64 1 (IntKind.u64.wrap (wrap64 (a1 - 1)))) - 1))))) else (some false)) else (none))) = some r := by rw [if_neg (show ¬ (false = true) by decide)] at H; exact H
        clear H
        have H := H1
        clear H1
        by_cases c6 : a1 = 64
        · rw [if_pos c6] at H
          have c6b0 : (a1 == 64) = true := beq_iff_eq.mpr c6
          have c6b1 : (a1 != 64) = false := bne_eq_false_iff_eq.mpr c6
          clear c6
          obtain rfl := Option.some.inj H
          go_wp2
          go_ret
          exact ⟨by first | rfl | (simp; done) | (simp [*]; done), by repeat (first | exact Drawn0.refl _ | apply Drawn0.step)⟩
        · rw [if_neg c6] at H
          have c6b0 : (a1 == 64) = false := beq_eq_false_iff_ne.mpr c6
          have c6b1 : (a1 != 64) = true := bne_iff_ne.mpr c6
          obtain ⟨ji7, hji7⟩ : ∃ j_ : Int, (IntKind.u64.wrap (wrap64 (a1 - 1))) = j_ := ⟨_, rfl⟩
          replace H : (if 0 ≤ (ji7) then (if a0 ≥ (wrap64 (-(shl .i64 1 (ji7)))) then (some (decide (a0 ≤ (wrap64 ((shl .i64 1 (ji7)) - 1))))) else (some false)) else (none)) = some r := by first | (rw [hji7] at H; exact H) | (simp only [hji7] at H ⊢; exact H)
          by_cases c8 : 0 ≤ (ji7)
          · rw [if_pos c8] at H
            have c8b0 := eq_true c8
            have c8b1 : decide (0 ≤ (ji7)) = true := decide_eq_true c8
            clear c8
            obtain ⟨ji9, hji9⟩ : ∃ j_ : Int, (shl .i64 1 (ji7)) = j_ := ⟨_, rfl⟩
            replace H : (if a0 ≥ (wrap64 (-(ji9))) then (some (decide (a0 ≤ (wrap64 ((ji9) - 1))))) else (some false)) = some r := by first | (rw [hji9] at H; exact H) | (simp only [hji9] at H ⊢; exact H)
            have hji9_ : (IntKind.i64.wrap (1 * 2 ^ min (ji7).toNat 64)) = ji9 := hji9
            have hji9z : (ji7) ≤ 64 → (IntKind.i64.wrap (1 * 2 ^ (ji7).toNat)) = ji9 := shl_small hji9
            have hji9u : (IntKind.i64.wrap (2 ^ min (ji7).toNat 64)) = ji9 := by have h_ := hji9_; rw [Int.one_mul] at h_; exact h_
            have hji9v : (ji7) ≤ 64 → (IntKind.i64.wrap (2 ^ (ji7).toNat)) = ji9 := fun hle_ => by have h_ := hji9z hle_; rw [Int.one_mul] at h_; exact h_
            have hji9y : (wrap64 (1 * 2 ^ min (ji7).toNat 64)) = ji9 := (i64_w _).symm.trans hji9_
            have hji9x : (ji7) ≤ 64 → (wrap64 (1 * 2 ^ (ji7).toNat)) = ji9 := fun h_ => (i64_w _).symm.trans (hji9z h_)
            by_cases c10 : a0 ≥ (wrap64 (-(ji9)))
            · rw [if_pos c10] at H
              have c10b0 : decide ((wrap64 (-(ji9))) ≤ a0) = true := decide_eq_true c10
              clear c10
              obtain rfl := Option.some.inj H
              go_wp2
              go_ret
              exact ⟨by first | rfl | (simp; done) | (simp only [← hji7, ← hji9] <;> (first | rfl | simp)) | (simp [*]; done), by repeat (first | exact Drawn0.refl _ | apply Drawn0.step)⟩
            · rw [if_neg c10] at H
              have c10b0 : decide ((wrap64 (-(ji9))) ≤ a0) = false := decide_eq_false c10
              clear c10
              obtain rfl := Option.some.inj H
              go_wp2
              go_ret
              exact ⟨by first | rfl | (simp; done) | (simp only [← hji7, ← hji9] <;> (first | rfl | simp)) | (simp [*]; done), by repeat (first | exact Drawn0.refl _ | apply Drawn0.step)⟩
          · rw [if_neg c8] at H
            exact absurd H (by simp)

-- NOT PRINTED: function 37 (lacquerref01_W_Signed)

-- NOT PRINTED: function 14 (lacquerref08_Encode)

-- NOT PRINTED: function 17 (lacquerref01_W_Bytes)

-- NOT PRINTED: function 3 (lacquerlaw08_RiceEncodes)

/-- A state of type 49 at block g of W; what its slices lead to came in by w0. -/
def IsS49 (w0 W : World) (g : Nat) (f0 : ByteArray) (f1 : Int) : Prop := W.heap[g]? = some (.cells #[.string f0, .int .i64 f1] 49 (0, 0)) ∧ w0.heap.size ≤ g
theorem IsS49.grown {w0 W : World} {g : Nat} {f0 : ByteArray} {f1 : Int} {W1 : World} {row : Option Nat} (h : IsS49 w0 W g f0 f1) (hw : W.grownBy W1 row) (hne : some g ≠ row) : IsS49 w0 W1 g f0 f1 := by
  obtain ⟨hb, hg⟩ := h
  exact ⟨blk_grown hb hw hne, hg⟩
theorem IsS49.kept {w0 W : World} {g : Nat} {f0 : ByteArray} {f1 : Int} {W1 : World} {S : Nat → Prop} (h : IsS49 w0 W g f0 f1) (hk : Kept W W1 S) (hne : ¬ S g) : IsS49 w0 W1 g f0 f1 := by
  obtain ⟨hb, hg⟩ := h
  exact ⟨blk_kept hb hk hne, hg⟩
theorem IsS49.below {w0 W : World} {g : Nat} {f0 : ByteArray} {f1 : Int} {W1 : World} (h : IsS49 w0 W g f0 f1) (hw : Below W.heap.size W W1) : IsS49 w0 W1 g f0 f1 := h.grown (grown_of_below hw none) (by simp)
theorem IsS49.alloc {w0 W : World} {g : Nat} {f0 : ByteArray} {f1 : Int} (h : IsS49 w0 W g f0 f1) (o : Obj) : IsS49 w0 (W.alloc o) g f0 f1 := h.below (below_alloc (Below.refl _ _) o)
theorem IsS49.drewN {w0 W : World} {g : Nat} {f0 : ByteArray} {f1 : Int} (h : IsS49 w0 W g f0 f1) (m : Nat) : IsS49 w0 (W.drewN m) g f0 f1 := h
theorem IsS49.drew {w0 W : World} {g : Nat} {f0 : ByteArray} {f1 : Int} (h : IsS49 w0 W g f0 f1) : IsS49 w0 W.drew g f0 f1 := h
theorem IsS49.at_ {w0 W : World} {g : Nat} {f0 : ByteArray} {f1 : Int} {w' : World} {m : Nat} (hq : W.drewN m = w') (h : IsS49 w0 W g f0 f1) : IsS49 w0 w' g f0 f1 := by subst hq; exact IsS49.drewN h m
theorem IsS49.apart {w0 W : World} {g : Nat} {f0 : ByteArray} {f1 : Int} {α : Type} {d : Kd α} {e : Nat} {base : Nat} {ok : Nat → Prop} {v : Value} {xs : List α} (h : IsS49 w0 W g f0 f1) (ho : d.R e W base ok v xs) (ht : ∀ q, q ∈ e :: d.E → q ≠ 49) : d.R e W base (fun k => ok k ∧ k ≠ g) v xs := by
  obtain ⟨hb, hg⟩ := h
  exact Kd.R_types ho hb ht
theorem IsS49.own_ne {w0 W : World} {g : Nat} {f0 : ByteArray} {f1 : Int} {α : Type} {d : Kd α} {e : Nat} {base : Nat} {ok : Nat → Prop} {v : Value} {xs : List α} (h : IsS49 w0 W g f0 f1) (ho : d.R e W base ok v xs) (ht : e ≠ 49) : some g ≠ v.ownBlock := by
  obtain ⟨hb, hg⟩ := h
  exact Kd.R_ne ho hb ht
theorem IsS49.lt {w0 W : World} {g : Nat} {f0 : ByteArray} {f1 : Int} (h : IsS49 w0 W g f0 f1) : g < W.heap.size := by
  obtain ⟨hb, hg⟩ := h
  exact blk_lt hb
theorem IsS49.ge {w0 W : World} {g : Nat} {f0 : ByteArray} {f1 : Int} (h : IsS49 w0 W g f0 f1) : w0.heap.size ≤ g := by
  obtain ⟨hb, hg⟩ := h
  exact hg
theorem IsS49.new (w0 W : World) (f0 : ByteArray) (f1 : Int) (hB : Below w0.heap.size w0 W) : IsS49 w0 (W.alloc (.cells #[.string f0, .int .i64 f1] 49)) W.heap.size f0 f1 := ⟨by simpa using heap_alloc_new W _, hB.size⟩

/-! ### lacquerref01_R_Left: function 59 -/

/-! ### lacquerref01_R_bit: function 60 -/

/-! ### lacquerref01_R_Get: function 43 -/

/-! ### lacquerref01_R_Unary: function 61 -/

/-! ### lacquerref01_Unfold: function 62 -/

/-! ### lacquerref01_R_Rice: function 44 -/

end Go.Proofs.Ytfhekkoibmlmpaa.Q

/- Printed by a program of ours (pp.sh), partly over contracts proved by hand. -/
namespace Go.Proofs.Ytfhekkoibmlmpaa.Q
open Go.RowKit Go.Proofs.YtfhekkoibmlmpaaW.PrintWords Go.Proofs.YtfhekkoibmlmpaaW.PrintLast Go.Proofs.YtfhekkoibmlmpaaW.PrintMore
attribute [local go_sem] max2_int min2_int max_two min_two max_three min_three max_four min_four   -- for this text's walks alone
set_option linter.unusedVariables false
set_option linter.unusedSimpArgs false

/-! ### lacquerref01_R_Signed: function 45 -/

-- NOT PRINTED: function 22 (lacquerref08_Decode)

-- NOT PRINTED: function 4 (lacquerlaw08_RiceDecodes)

-- NOT PRINTED: function 5 (lacquerlaw08_RiceBack)

/-! ### lacquerref08_Cost: function 29 -/

-- NOT PRINTED: function 27 (lacquerref08_Best)

-- NOT PRINTED: function 6 (lacquerlaw08_RiceBest)

-- NOT PRINTED: function 7 (lacquerlaw08_RiceLeast)

end Go.Proofs.Ytfhekkoibmlmpaa.Q

/- Contracts of layer 1, proved by hand: fold, fits; a writer's Signed, Unary, Rice, Align. -/
namespace Go.Proofs.Ytfhekkoibmlmpaa.Hand
open Go.RowKit Go.Proofs.Ytfhekkoibmlmpaa.Q Go.Proofs.YtfhekkoibmlmpaaW.PrintWords Go.Proofs.YtfhekkoibmlmpaaW.PrintLast Go.Proofs.YtfhekkoibmlmpaaW.PrintMore
set_option linter.unusedVariables false
set_option linter.unusedSimpArgs false

/-- A number of either sign as one from 0 on. -/
def foldN (n : Int) : Nat := if 0 ≤ n then (2 * n).toNat else (-2 * n - 1).toNat
theorem foldN_lt (n : Int) (h0 : -9223372036854775808 ≤ n) (h1 : n ≤ 9223372036854775807) : foldN n < 18446744073709551616 := by
  unfold foldN
  split <;> omega
theorem bits_xor_u64 (x y : Int) : Go.bits .xor .u64 x y = IntKind.u64.wrap ((BitVec.ofInt 64 x ^^^ BitVec.ofInt 64 y).toNat : Int) := rfl
theorem fold_bits (n : Int) (h0 : -9223372036854775808 ≤ n) (h1 : n ≤ 9223372036854775807) : Go.bits .xor .u64 (IntKind.u64.wrap ((IntKind.u64.wrap n) * 2)) (IntKind.u64.wrap (n / 9223372036854775808)) = (foldN n : Int) := by
  rw [bits_xor_u64]
  by_cases h : 0 ≤ n
  · have e1 : n / 9223372036854775808 = 0 := by omega
    have e2 : IntKind.u64.wrap (IntKind.u64.wrap n * 2) = ((foldN n : Nat) : Int) := by
      unfold foldN
      rw [if_pos h, u64_wrap, u64_wrap]
      omega
    have hlt := foldN_lt n h0 h1
    rw [e1, e2, show IntKind.u64.wrap 0 = 0 from rfl, show BitVec.ofInt 64 0 = 0#64 from rfl, BitVec.xor_zero, BitVec.toNat_ofInt, u64_wrap]
    omega
  · have e1 : n / 9223372036854775808 = -1 := by omega
    have e2 : IntKind.u64.wrap (IntKind.u64.wrap n * 2) = 2 * n + 18446744073709551616 := by
      rw [u64_wrap, u64_wrap]
      omega
    have hlt := foldN_lt n h0 h1
    rw [e1, e2, show BitVec.ofInt 64 (IntKind.u64.wrap (-1)) = BitVec.allOnes 64 by decide, BitVec.xor_allOnes, BitVec.toNat_not, BitVec.toNat_ofInt, u64_wrap]
    unfold foldN
    rw [if_neg h]
    omega
theorem fold_any (n : Int) (h0 : -9223372036854775808 ≤ n) (h1 : n ≤ 9223372036854775807) (w : World) : Calls Try.prog 49 #[.int .i64 n] w fun e w' => e = .returned (.int .u64 (foldN n)) ∧ Drawn0 w w' := by
  refine bits_fold.calls n _ w ?_
  unfold bits_fold.f
  rw [fold_bits n h0 h1]
instance (n k : Int) : Decidable (fitsP n k) := by unfold fitsP; infer_instance
theorem fits_any (n k : Int) (h0 : -9223372036854775808 ≤ n) (h1 : n ≤ 9223372036854775807) (w : World) : Calls Try.prog 51 #[.int .i64 n, .int .i64 k] w fun e w' => e = .returned (.bool (decide (fitsP n k))) ∧ Drawn0 w w' := by
  refine bits_fits.calls n k _ w ?_
  unfold bits_fits.f
  by_cases a : k ≥ 1
  · by_cases b : k ≤ 64
    · rw [if_pos a, if_pos b, wrap_id (k - 1) (by omega) (by omega), if_pos (by omega)]
      congr 1
      have hs : shr .i64 n (k - 1) = n / 2 ^ (k - 1).toNat := by
        unfold shr
        rw [Nat.min_eq_left (by simp [IntKind.bits]; omega)]
      rw [hs, fits_shift n (k - 1).toNat h0 (by omega)]
      by_cases c : -(2 ^ (k - 1).toNat) ≤ n ∧ n < 2 ^ (k - 1).toNat
      · rw [decide_eq_true c, decide_eq_true (show fitsP n k from ⟨a, b, c.1, c.2⟩)]
      · rw [decide_eq_false c, decide_eq_false (show ¬ fitsP n k from fun q => c ⟨q.2.2.1, q.2.2.2⟩)]
    · rw [if_pos a, if_neg b, decide_eq_false (show ¬ fitsP n k from fun q => b q.2.1)]
  · rw [if_neg a, decide_eq_false (show ¬ fitsP n k from fun q => a q.1)]
/-- The number in 64 bits. -/
def wordN (n : Int) : Nat := (n % 18446744073709551616).toNat
theorem wordN_lt (n : Int) : wordN n < 18446744073709551616 := by unfold wordN; omega
theorem wordN_eq (n : Int) : IntKind.u64.wrap n = (wordN n : Int) := by rw [u64_wrap]; unfold wordN; omega
set_option maxHeartbeats 4000000 in
set_option maxRecDepth 100000 in
theorem Signed_no (n k : Int) (h0 : -9223372036854775808 ≤ n) (h1 : n ≤ 9223372036854775807) (hf : ¬ fitsP n k) (g : Nat) (w : World) :
    Calls Try.prog 34 #[.pointer (some ⟨g, 0, none⟩), .int .i64 n, .int .i64 k] w fun e w' => e = .returned (.int .i64 11) ∧ Drawn0 w w' := by
  have hup := Try.underlying28
  have hc := fits_any n k h0 h1
  rw [decide_eq_false hf] at hc
  have HC := Aside0.mk hc
  clear hc hf
  go_enter Try.func34, Try.ntmps34
  go_wp2_with fail
  refine (HC.out _).mono ?_
  rintro e w1 ⟨rfl, hd⟩
  have HD := Aside0.mk hd
  clear hd
  go_wp2
  go_ret
  exact ⟨rfl, HD.out⟩
set_option maxHeartbeats 4000000 in
set_option maxRecDepth 100000 in
theorem Signed_yes (n : Int) (K : Nat) (h0 : -9223372036854775808 ≤ n) (h1 : n ≤ 9223372036854775807) (hf : fitsP n K) (bs : List Bool) (B g : Nat) (v : Value) (w : World) (h : WAt w B g v bs) (hl : bs.length + 64 < 1125899906842624) :
    Calls Try.prog 34 #[.pointer (some ⟨g, 0, none⟩), .int .i64 n, .int .i64 K] w fun e w' => e = .returned (.int .i64 0) ∧ ∃ v', WAt w' B g v' (bs ++ nbits (wordN n) K) ∧ Moved B g w v w' v' := by
  have hup := Try.underlying28
  have hc := fits_any n K h0 h1
  rw [decide_eq_true hf] at hc
  have HC := Aside0.mk hc
  have hw := wordN_eq n
  have H := Aside0.mk h
  have hK : K ≤ 64 := by have := hf.2.1; omega
  clear hc hf h
  go_enter Try.func34, Try.ntmps34
  go_wp2_with fail
  refine (HC.out _).mono ?_
  rintro e w1 ⟨rfl, ⟨m, rfl⟩⟩
  have H1 := Aside0.mk (H.out.below (pw_below_drewN (Below.refl _ _) m))
  have HM1 := Aside0.mk ((Moved.refl B g w v).drewN m)
  generalize w.drewN m = w1 at H1 HM1 ⊢
  go_wp2_with fail
  refine (lay_any (wordN n) K bs (wordN_lt n) hK B g v w1 H1.out hl).mono ?_
  rintro e w2 ⟨rfl, v2, hE, hM⟩
  have HE := Aside0.mk hE
  have HM := Aside0.mk (HM1.out.trans hM)
  clear hE hM
  go_wp2
  go_ret
  exact ⟨rfl, v2, HE.out, HM.out⟩
/-- How many noughts bring bits to whole bytes. -/
def padN (n : Nat) : Nat := (8 - n % 8) % 8
end Go.Proofs.Ytfhekkoibmlmpaa.Hand

/- Contracts of layer 1, proved by hand: a writer's Rice. -/
namespace Go.Proofs.Ytfhekkoibmlmpaa.Hand
open Go.RowKit Go.Proofs.Ytfhekkoibmlmpaa.Q Go.Proofs.YtfhekkoibmlmpaaW.PrintWords Go.Proofs.YtfhekkoibmlmpaaW.PrintLast Go.Proofs.YtfhekkoibmlmpaaW.PrintMore
set_option linter.unusedVariables false
set_option linter.unusedSimpArgs false

def riceP (n k : Int) : Prop := 0 ≤ k ∧ k ≤ 30 ∧ foldN n / 2 ^ k.toNat ≤ 16777216
instance (n k : Int) : Decidable (riceP n k) := by unfold riceP; infer_instance
/-- A Rice code. -/
def riceB (n : Int) (K : Nat) : List Bool := List.replicate (foldN n / 2 ^ K) false ++ true :: nbits (foldN n) K
set_option maxHeartbeats 4000000 in
set_option maxRecDepth 100000 in
theorem Rice_yes (n : Int) (K : Nat) (h0 : -9223372036854775808 ≤ n) (h1 : n ≤ 9223372036854775807) (h : riceP n K) (bs : List Bool) (B g : Nat) (v : Value) (w : World) (hE : WAt w B g v bs) (hl : bs.length + 16777400 < 1125899906842624) :
    Calls Try.prog 33 #[.pointer (some ⟨g, 0, none⟩), .int .i64 n, .int .i64 K] w fun e w' => e = .returned (.int .i64 0) ∧ ∃ v', WAt w' B g v' (bs ++ riceB n K) ∧ Moved B g w v w' v' := by
  have hup := Try.underlying28
  have hq : foldN n / 2 ^ K ≤ 16777216 := by simpa using h.2.2
  have hd : (foldN n : Int) / 2 ^ K = ((foldN n / 2 ^ K : Nat) : Int) := by simp
  have HF := Aside0.mk (fold_any n h0 h1)
  have hlt := foldN_lt n h0 h1
  have k2 : (0 : Int) ≤ (K : Int) := by omega
  have k3 : (K : Int) ≤ 30 := h.2.1
  have k4 : (K : Int) < 64 := by omega
  have HE := Aside0.mk hE
  have HRB : Aside0 (riceB n K = List.replicate (foldN n / 2 ^ K) false ++ true :: nbits (foldN n) K) := ⟨rfl⟩
  obtain ⟨u, hu⟩ : ∃ u, foldN n = u := ⟨_, rfl⟩
  rw [hu] at hq hd HF hlt HRB
  obtain ⟨q, hqq⟩ : ∃ q, u / 2 ^ K = q := ⟨_, rfl⟩
  rw [hqq] at hq hd HRB
  have hq' : (q : Int) ≤ 16777216 := by omega
  clear h hu hqq hE
  go_enter Try.func33, Try.ntmps33
  go_wp2_with fail
  refine (HF.out _).mono ?_
  rintro e w1 ⟨rfl, ⟨m1, rfl⟩⟩
  go_wp2_with fail
  refine (HF.out _).mono ?_
  rintro e w1 ⟨rfl, ⟨m2, rfl⟩⟩
  have HE1 : Aside0 (WAt ((w.drewN m1).drewN m2) B g v bs) := ⟨(HE.out.below (pw_below_drewN (Below.refl _ _) m1)).below (pw_below_drewN (Below.refl _ _) m2)⟩
  have HM1 : Aside0 (Moved B g w v ((w.drewN m1).drewN m2) v) := ⟨((Moved.refl B g w v).drewN m1).drewN m2⟩
  generalize (w.drewN m1).drewN m2 = wy at HE1 HM1 ⊢
  go_wp2_with fail
  refine (unary_any q bs (by omega) B g v wy HE1.out (by omega)).mono ?_
  rintro e w3 ⟨rfl, v3, hE, hM⟩
  have HE3 := Aside0.mk hE
  have HM3 := Aside0.mk (HM1.out.trans hM)
  clear hE hM
  go_wp2_with fail
  refine (lay_any u K _ hlt (by omega) B g v3 w3 HE3.out (by rw [List.length_append, noughts_length]; simp; omega)).mono ?_
  rintro e w4 ⟨rfl, v4, hE, hM⟩
  have HE4 := Aside0.mk hE
  have HM4 := Aside0.mk (HM3.out.trans hM)
  clear hE hM
  go_wp2
  go_ret
  refine ⟨rfl, v4, ?_, HM4.out⟩
  rw [HRB.out]
  have := HE4.out
  unfold noughts at this
  simpa using this
end Go.Proofs.Ytfhekkoibmlmpaa.Hand

/- Plain words of layer 1: the bits of a text, and what a reader gives. -/
namespace Go.Proofs.Ytfhekkoibmlmpaa.Hand
open Go.RowKit Go.Proofs.YtfhekkoibmlmpaaW.PrintWords
set_option linter.unusedVariables false
set_option linter.unusedSimpArgs false

/-- Bit q of a text; k bits from p on. -/
def tb (s : ByteArray) (q : Nat) : Bool := bitAt (bytesOf s) q
def bitsAt (s : ByteArray) (p k : Nat) : List Bool := (List.range k).map fun i => tb s (p + i)
theorem bitsAt_length (s : ByteArray) (p k : Nat) : (bitsAt s p k).length = k := by simp [bitsAt]
theorem bitsAt_snoc (s : ByteArray) (p k : Nat) : bitsAt s p (k + 1) = bitsAt s p k ++ [tb s (p + k)] := by simp [bitsAt, List.range_succ]
/-- A number of k bits. -/
def numAt (s : ByteArray) (p k : Nat) : Nat := natOf (bitsAt s p k)
theorem numAt_lt (s : ByteArray) (p k : Nat) : numAt s p k < 2 ^ k := natOf_lt k _ (bitsAt_length s p k)
theorem numAt_succ (s : ByteArray) (p k : Nat) : numAt s p (k + 1) = 2 * numAt s p k + (tb s (p + k)).toNat := by
  unfold numAt
  rw [bitsAt_snoc, natOf_snoc]
theorem bytes_get (s : ByteArray) (j : Nat) (h : j < s.size) : (bytesOf s).getD j 0 = ((s[j]'h).toNat : Int) := by
  unfold bytesOf
  rw [List.getD_eq_getElem?_getD, List.getElem?_map]
  have : s.data.toList[j]? = some (s[j]'h) := by
    rw [Array.getElem?_toList]
    exact Array.getElem?_eq_getElem h
  rw [this]
  rfl
theorem low_bit (x : Nat) (hx : x < 18446744073709551616) : Go.bits .and .u64 (x : Int) 1 = ((x.testBit 0).toNat : Int) := by
  have e : Go.bits .and .u64 (x : Int) 1 = IntKind.u64.wrap ((BitVec.ofInt 64 (x : Int) &&& BitVec.ofInt 64 1).toNat : Int) := rfl
  have e1 : (BitVec.ofInt 64 (x : Int)).toNat = x := by rw [BitVec.toNat_ofInt]; omega
  have e2 : (BitVec.ofInt 64 1).toNat = 1 := by decide
  rw [e, BitVec.toNat_and, e1, e2, Nat.and_one_is_mod, Nat.testBit_zero]
  have hm : IntKind.u64.wrap ((x % 2 : Nat) : Int) = ((x % 2 : Nat) : Int) := by
    simp only [IntKind.wrap, IntKind.bits, IntKind.signed]
    simp
    omega
  rw [hm]
  rcases Nat.mod_two_eq_zero_or_one x with h | h <;> simp [h]
theorem or_bit (n : Nat) (b : Bool) (h : 2 * n + 1 < 18446744073709551616) : Go.bits .or .u64 ((n : Int) * 2) (b.toNat : Int) = ((2 * n + b.toNat : Nat) : Int) := by
  have e : Go.bits .or .u64 ((n : Int) * 2) (b.toNat : Int) = IntKind.u64.wrap ((BitVec.ofInt 64 ((n : Int) * 2) ||| BitVec.ofInt 64 (b.toNat : Int)).toNat : Int) := rfl
  have hb : b.toNat < 2 := by cases b <;> decide
  have e1 : (BitVec.ofInt 64 ((n : Int) * 2)).toNat = n <<< 1 := by rw [BitVec.toNat_ofInt, Nat.shiftLeft_eq]; omega
  have e2 : (BitVec.ofInt 64 (b.toNat : Int)).toNat = b.toNat := by rw [BitVec.toNat_ofInt]; omega
  rw [e, BitVec.toNat_or, e1, e2, ← Nat.shiftLeft_add_eq_or_of_lt (by simpa using hb), Nat.shiftLeft_eq]
  have hm : IntKind.u64.wrap ((n * 2 ^ 1 + b.toNat : Nat) : Int) = ((n * 2 ^ 1 + b.toNat : Nat) : Int) := by
    simp only [IntKind.wrap, IntKind.bits, IntKind.signed]
    simp
    omega
  rw [hm]
  congr 1
  omega
theorem peek_bit (s : ByteArray) (q j r : Nat) (hj : j < s.size) (hq : q / 8 = j) (hr : q % 8 = r) : Go.bits .and .u64 (((s[j]'hj).toNat : Int) / 2 ^ (7 - r)) 1 = ((tb s q).toNat : Int) := by
  have hlt : (s[j]'hj).toNat < 256 := (s[j]'hj).toNat_lt
  have e : ((s[j]'hj).toNat : Int) / 2 ^ (7 - r) = (((s[j]'hj).toNat / 2 ^ (7 - r) : Nat) : Int) := by simp
  have hle : (s[j]'hj).toNat / 2 ^ (7 - r) ≤ (s[j]'hj).toNat := Nat.div_le_self _ _
  rw [e, low_bit _ (by omega)]
  unfold tb bitAt
  rw [hq, hr, bytes_get s j hj, Int.toNat_natCast, Nat.testBit_zero, ← Nat.testBit_eq_decide_div_mod_eq]
/-- What Get gives: the number, the error, the place behind it. -/
def getR (s : ByteArray) (p : Nat) (k : Int) : Nat × Int × Nat :=
  if k < 0 ∨ 64 < k then (0, 11, p) else if ((8 * s.size - p : Nat) : Int) < k then (0, 10, p) else (numAt s p k.toNat, 0, p + k.toNat)
theorem getR_at (s : ByteArray) (p : Nat) (k : Int) (hp : p ≤ 8 * s.size) : (getR s p k).2.2 ≤ 8 * s.size := by
  unfold getR
  split
  · exact hp
  · split
    · exact hp
    · show p + k.toNat ≤ _; omega
/-- How many noughts lie from p on (at most m). -/
def zeros (s : ByteArray) (p : Nat) : Nat → Nat
  | 0 => 0
  | m + 1 => if tb s p then 0 else zeros s (p + 1) m + 1
theorem zeros_le (s : ByteArray) : ∀ (m p : Nat), zeros s p m ≤ m
  | 0, p => Nat.le_refl _
  | m + 1, p => by
    rw [zeros]
    split
    · omega
    · have := zeros_le s m (p + 1); omega
theorem zeros_bit (s : ByteArray) : ∀ (m p i : Nat), i < zeros s p m → tb s (p + i) = false
  | 0, p, i, h => by simp [zeros] at h
  | m + 1, p, i, h => by
    rw [zeros] at h
    by_cases hb : tb s p = true
    · rw [if_pos hb] at h; omega
    · rw [if_neg hb] at h
      cases i with
      | zero => simpa using hb
      | succ i =>
        have := zeros_bit s m (p + 1) i (by omega)
        rw [show p + (i + 1) = p + 1 + i by omega]
        exact this
theorem zeros_end (s : ByteArray) : ∀ (m p : Nat), zeros s p m < m → tb s (p + zeros s p m) = true
  | 0, p, h => by omega
  | m + 1, p, h => by
    rw [zeros] at h ⊢
    by_cases hb : tb s p = true
    · rw [if_pos hb]; exact hb
    · rw [if_neg hb] at h ⊢
      have := zeros_end s m (p + 1) (by omega)
      rw [show p + (zeros s (p + 1) m + 1) = p + 1 + zeros s (p + 1) m by omega]
      exact this
/-- What Unary gives. -/
def unaryR (s : ByteArray) (p : Nat) : Nat × Int × Nat :=
  if 16777216 < zeros s p (8 * s.size - p) then (0, 11, p) else if zeros s p (8 * s.size - p) = 8 * s.size - p then (0, 10, p) else (zeros s p (8 * s.size - p), 0, p + zeros s p (8 * s.size - p) + 1)
/-- A number in the sign's bits: as so many bits, signed. -/
def signOf (n : Nat) (k : Nat) : Int := if n < 2 ^ (k - 1) then (n : Int) else (n : Int) - 2 ^ k
end Go.Proofs.Ytfhekkoibmlmpaa.Hand

/- Contracts of layer 1, proved by hand: a reader's Of, At, Left, peek, Get. -/
namespace Go.Proofs.Ytfhekkoibmlmpaa.Hand
open Go.RowKit Go.Proofs.YtfhekkoibmlmpaaW.PrintWords Go.Proofs.YtfhekkoibmlmpaaW.PrintLast Go.Proofs.YtfhekkoibmlmpaaW.PrintMore
set_option linter.unusedVariables false
set_option linter.unusedSimpArgs false

/-- From w on to w' the block g has been turned, and nothing else. -/
structure Turned (B g : Nat) (w w' : World) : Prop where
  below : Below B w w'
  kept : Kept w w' (fun k => k = g)
theorem Turned.refl (B g : Nat) (w : World) : Turned B g w w := ⟨Below.refl _ _, Kept.refl _ _⟩
theorem Turned.trans {B g : Nat} {w w1 w2 : World} (h : Turned B g w w1) (k : Turned B g w1 w2) : Turned B g w w2 := ⟨h.below.trans k.below, h.kept.then_ k.kept (fun _ h => .inl h)⟩
theorem Turned.set {B g : Nat} {w w1 : World} (h : Turned B g w w1) (hB : B ≤ g) (j : Nat) (u : Value) : Turned B g w (w1.setCell ⟨g, j, none⟩ u) := ⟨h.below.setCell hB u, h.kept.setCell (p := ⟨g, j, none⟩) (.inl rfl) u⟩
theorem Turned.drew {B g : Nat} {w w1 : World} (h : Turned B g w w1) : Turned B g w w1.drew := ⟨below_drew h.below, h.kept.drew⟩
theorem Turned.drewN {B g : Nat} {w w1 : World} (h : Turned B g w w1) (m : Nat) : Turned B g w (w1.drewN m) := ⟨pw_below_drewN h.below m, h.kept.drewN m⟩
theorem Turned.drawn {B g : Nat} {w w1 w2 : World} (h : Turned B g w w1) (k : Drawn0 w1 w2) : Turned B g w w2 := by
  obtain ⟨m, rfl⟩ := k
  exact h.drewN m
theorem Turned.new {B g : Nat} {w w1 w2 : World} (h : Turned B g w w1) (k : Below w1.heap.size w1 w2) (hB : B ≤ w1.heap.size) : Turned B g w w2 :=
  ⟨h.below.trans (k.mono hB), h.kept.below k⟩
/-- A reader in block g: its place, its text. -/
def RAt (w : World) (g : Nat) (s : ByteArray) (p : Nat) : Prop := w.heap[g]? = some (.cells #[.int .i64 p, .string s] 75 (0, 0))
theorem RAt.below {w w' : World} {g p : Nat} {s : ByteArray} (h : RAt w g s p) (hb : Below w.heap.size w w') : RAt w' g s p := blk_below h hb
theorem RAt.drawn {w w' : World} {g p : Nat} {s : ByteArray} (h : RAt w g s p) (k : Drawn0 w w') : RAt w' g s p := by
  obtain ⟨m, rfl⟩ := k
  exact h.below (pw_below_drewN (Below.refl _ _) m)
theorem RAt.lt {w : World} {g p : Nat} {s : ByteArray} (h : RAt w g s p) : g < w.heap.size := blk_lt h
theorem RAt.place {w : World} {g p : Nat} {s : ByteArray} (h : RAt w g s p) : w.cell? ⟨g, 0, none⟩ = some (.int .i64 p) := blk_cell h 0
theorem RAt.text {w : World} {g p : Nat} {s : ByteArray} (h : RAt w g s p) : w.cell? ⟨g, 1, none⟩ = some (.string s) := blk_cell h 1
theorem RAt.to {w : World} {g p q : Nat} {s : ByteArray} (h : RAt w g s p) : RAt (w.setCell ⟨g, 0, none⟩ (.int .i64 q)) g s q := blk_put h 0 _ rfl
set_option maxHeartbeats 1000000 in
theorem Of_any (s : ByteArray) (w : World) : Calls Try.prog 20 #[.string s] w fun e w' => e = .returned (.pointer (some ⟨w.heap.size, 0, none⟩)) ∧ w' = w.alloc (.cells #[.int .i64 0, .string s] 75) := by
  go_enter Try.func20, Try.ntmps20
  go_wp2
  go_ret
  exact ⟨rfl, rfl⟩
set_option maxHeartbeats 1000000 in
theorem At_any (s : ByteArray) (p g : Nat) (w : World) (h : RAt w g s p) : Calls Try.prog 25 #[.pointer (some ⟨g, 0, none⟩)] w fun e w' => e = .returned (.int .i64 p) ∧ Drawn0 w w' := by
  have hup := Try.underlying45
  have c0 := h.place
  clear h
  go_enter Try.func25, Try.ntmps25
  go_wp2_with fail
  refine (at_any g _ _ c0).mono ?_
  rintro e w' ⟨rfl, rfl⟩
  go_wp2
  go_ret
  exact ⟨rfl, Drawn0.refl _⟩
set_option maxHeartbeats 2000000 in
theorem Left_any (s : ByteArray) (hs : s.size ≤ 281474976710656) (p g : Nat) (hp : p ≤ 8 * s.size) (w : World) (h : RAt w g s p) : Calls Try.prog 54 #[.pointer (some ⟨g, 0, none⟩)] w fun e w' => e = .returned (.int .i64 ((8 * s.size - p : Nat) : Int)) ∧ Drawn0 w w' := by
  have hup := Try.underlying45
  have c0 := h.place
  have c1 := h.text
  have e1 : IntKind.i64.wrap (8 * (s.size : Int)) = 8 * (s.size : Int) := by rw [IntKind.wrap_i64]; omega
  have e2 : IntKind.i64.wrap (8 * (s.size : Int) - (p : Int)) = ((8 * s.size - p : Nat) : Int) := by rw [IntKind.wrap_i64]; omega
  clear h
  go_enter Try.func54, Try.ntmps54
  go_wp2
  go_quiet (first | (go_at_call 38; exact Calls.quiet_of_same (at_still g _ _ (by exact c0))))
  go_wp2
  go_ret
  exact ⟨rfl, ⟨_, rfl⟩⟩
set_option maxHeartbeats 2000000 in
theorem peek_any (s : ByteArray) (p q g : Nat) (hq : q < 8 * s.size) (hs : s.size ≤ 281474976710656) (w : World) (h : RAt w g s p) : Calls Try.prog 55 #[.pointer (some ⟨g, 0, none⟩), .int .i64 q] w fun e w' => e = .returned (.int .u64 ((tb s q).toNat : Int)) ∧ Drawn0 w w' := by
  have hup := Try.underlying45
  have c1 := h.text
  obtain ⟨j, hj⟩ : ∃ j, q / 8 = j := ⟨_, rfl⟩
  obtain ⟨r, hr⟩ : ∃ r, q % 8 = r := ⟨_, rfl⟩
  have hjl : j < s.size := by omega
  have hb := peek_bit s q j r hjl hj hr
  generalize tb s q = one at hb ⊢
  have e4 : IntKind.u64.wrap (((s[j]'hjl).toNat : Int) / 2 ^ (7 - r)) = ((s[j]'hjl).toNat : Int) / 2 ^ (7 - r) := by
    have hlt : (s[j]'hjl).toNat < 256 := (s[j]'hjl).toNat_lt
    have e : ((s[j]'hjl).toNat : Int) / 2 ^ (7 - r) = (((s[j]'hjl).toNat / 2 ^ (7 - r) : Nat) : Int) := by simp
    have hle : (s[j]'hjl).toNat / 2 ^ (7 - r) ≤ (s[j]'hjl).toNat := Nat.div_le_self _ _
    rw [e]
    generalize (s[j]'hjl).toNat / 2 ^ (7 - r) = y at hle
    rw [u64_wrap]
    omega
  have e1 : (q : Int) / 8 = (j : Int) := by omega
  have e2 : (q : Int) % 8 = (r : Int) := by omega
  have e3 : (7 - (r : Int)).toNat = 7 - r := by omega
  have i0 : (0 : Int) ≤ (j : Int) := by omega
  have i1 : (j : Int) < (s.size : Int) := by omega
  have i2 : 0 ≤ 7 - (r : Int) := by omega
  have i3 : 7 - (r : Int) < 8 := by omega
  clear h hj hr
  go_enter Try.func55, Try.ntmps55
  go_wp2
  go_ret
  exact ⟨rfl, Drawn0.refl _⟩
end Go.Proofs.Ytfhekkoibmlmpaa.Hand

/- Contracts of layer 1, proved by hand: a reader's Get. -/
namespace Go.Proofs.Ytfhekkoibmlmpaa.Hand
open Go.RowKit Go.Proofs.YtfhekkoibmlmpaaW.PrintWords Go.Proofs.YtfhekkoibmlmpaaW.PrintLast Go.Proofs.YtfhekkoibmlmpaaW.PrintMore
set_option linter.unusedVariables false
set_option linter.unusedSimpArgs false

set_option maxHeartbeats 2000000 in
set_option maxRecDepth 100000 in
theorem Get_any (s : ByteArray) (hs : s.size ≤ 281474976710656) (p : Nat) (hp : p ≤ 8 * s.size) (k : Int) (B g : Nat) (hB : B ≤ g) (w : World) (h : RAt w g s p) :
    Calls Try.prog 41 #[.pointer (some ⟨g, 0, none⟩), .int .i64 k] w fun e w' => e = .returned (.tuple #[.int .u64 (getR s p k).1, .int .i64 (getR s p k).2.1]) ∧ RAt w' g s (getR s p k).2.2 ∧ Turned B g w w' := by
  have hup := Try.underlying45
  have HR := Aside0.mk h
  clear h
  by_cases h1 : k < 0
  · have he : getR s p k = (0, 11, p) := if_pos (.inl h1)
    rw [he]
    clear he
    go_enter Try.func41, Try.ntmps41
    go_wp2
    go_ret2
    exact ⟨rfl, HR.out, Turned.refl _ _ _⟩
  · by_cases h2 : 64 < k
    · have he : getR s p k = (0, 11, p) := if_pos (.inr h2)
      rw [he]
      clear he
      go_enter Try.func41, Try.ntmps41
      go_wp2
      go_ret2
      exact ⟨rfl, HR.out, Turned.refl _ _ _⟩
    · obtain ⟨K, rfl⟩ : ∃ K : Nat, k = (K : Int) := ⟨k.toNat, by omega⟩
      have HL := Aside0.mk (Left_any s hs p g hp w HR.out)
      obtain ⟨L, hL⟩ : ∃ L : Int, ((8 * s.size - p : Nat) : Int) = L := ⟨_, rfl⟩
      rw [hL] at HL
      by_cases h3 : L < (K : Int)
      · have he : getR s p K = (0, 10, p) := by unfold getR; rw [if_neg (by omega), if_pos (by rw [hL]; exact h3)]
        rw [he]
        clear he hL
        go_enter Try.func41, Try.ntmps41
        go_wp2_with fail
        refine HL.out.mono ?_
        rintro e w1 ⟨rfl, hd⟩
        have HD := Aside0.mk hd
        clear hd
        go_wp2
        go_ret2
        exact ⟨rfl, HR.out.drawn HD.out, (Turned.refl B g w).drawn HD.out⟩
      · have he : getR s p K = (numAt s p K, 0, p + K) := by unfold getR; rw [if_neg (by omega), if_neg (by rw [hL]; exact h3)]; rfl
        rw [he]
        have HSZ := Aside0.mk (show p + K ≤ 8 * s.size by omega)
        have hp1 : p ≤ 2251799813685248 := by omega
        have hK1 : K ≤ 64 := by omega
        have HLL := Aside0.mk hL
        clear he hL h1 h2
        go_enter Try.func41, Try.ntmps41
        go_wp2_with fail
        refine HL.out.mono ?_
        rintro e w1 ⟨rfl, hd⟩
        have HR1 := Aside0.mk (HR.out.drawn hd)
        have HT1 := Aside0.mk ((Turned.refl B g w).drawn hd)
        clear hd
        go_wp2
        go_loopg [6, 24] K (fun gk n i wr => ∃ d : Nat, d + gk = K ∧ i = .int .i64 d ∧ n = .int .u64 (numAt s p d) ∧ Aside0 (RAt wr g s p) ∧ Aside0 (Turned B g w wr))
        case atStart => exact ⟨0, by omega, rfl, rfl, HR1, HT1⟩
        case round =>
          obtain ⟨d, hdk, rfl, rfl, HR2, HT2⟩ := hrel
          have c0 := HR2.out.place
          cases gk with
          | zero =>
            obtain rfl : d = K := by omega
            have f0 := blk_frozen HR2.out 0
            go_wp2_with fail
            refine (on_any g p d wr c0 f0 (by omega) (by omega) (by omega) (by omega)).mono ?_
            rintro e w2 ⟨rfl, rfl⟩
            go_wp2
            go_ret2
            refine ⟨rfl, ?_, HT2.out.set hB 0 _⟩
            exact_mod_cast HR2.out.to (q := p + d)
          | succ gk =>
            have i1 : (d : Int) < (K : Int) := by omega
            have hlt : numAt s p d < 9223372036854775808 := Nat.lt_of_lt_of_le (numAt_lt s p d) (by
              have : d ≤ 63 := by omega
              exact Nat.pow_le_pow_right (by decide) this)
            have hor := or_bit (numAt s p d) (tb s (p + d)) (by omega)
            have hnx := numAt_succ s p d
            rw [← hnx] at hor
            have HPK := Aside0.mk (fun W hW => peek_any s p (p + d) g (by have := HSZ.out; omega) hs W hW)
            generalize tb s (p + d) = one at hor HPK hnx
            clear hnx
            obtain ⟨n2, hn2⟩ : ∃ n2, numAt s p (d + 1) = n2 := ⟨_, rfl⟩
            rw [hn2] at hor
            have HN2 := Aside0.mk hn2
            clear hn2
            generalize numAt s p d = n1 at hlt hor
            obtain ⟨q, hq⟩ : ∃ q, p + d = q := ⟨_, rfl⟩
            rw [hq] at HPK
            have eq1 : (p : Int) + (d : Int) = (q : Int) := by omega
            have hq2 : q ≤ 4503599627370496 := by omega
            clear hq
            go_wp2_with fail
            refine (at_any g _ _ c0).mono ?_
            rintro e w2 ⟨rfl, rfl⟩
            go_wp2_with fail
            refine (HPK.out _ HR2.out).mono ?_
            rintro e w3 ⟨rfl, hd⟩
            have HR3 := Aside0.mk (HR2.out.drawn hd)
            have HT3 := Aside0.mk (HT2.out.drawn hd)
            clear hd
            go_wp2
            go_roundg gk
            case measure => omega
            case rel => exact ⟨d + 1, by omega, by go_num, by rw [HN2.out], HR3, HT3⟩
end Go.Proofs.Ytfhekkoibmlmpaa.Hand

/- Contracts of layer 1, proved by hand: a reader's Unary. -/
namespace Go.Proofs.Ytfhekkoibmlmpaa.Hand
open Go.RowKit Go.Proofs.YtfhekkoibmlmpaaW.PrintWords Go.Proofs.YtfhekkoibmlmpaaW.PrintLast Go.Proofs.YtfhekkoibmlmpaaW.PrintMore
set_option linter.unusedVariables false
set_option linter.unusedSimpArgs false

set_option maxHeartbeats 2000000 in
set_option maxRecDepth 100000 in
theorem UnaryR_any (s : ByteArray) (hs : s.size ≤ 281474976710656) (p : Nat) (hp : p ≤ 8 * s.size) (B g : Nat) (hB : B ≤ g) (w : World) (h : RAt w g s p) :
    Calls Try.prog 64 #[.pointer (some ⟨g, 0, none⟩)] w fun e w' => e = .returned (.tuple #[.int .i64 (unaryR s p).1, .int .i64 (unaryR s p).2.1]) ∧ RAt w' g s (unaryR s p).2.2 ∧ Turned B g w w' := by
  have hup := Try.underlying45
  have HR := Aside0.mk h
  clear h
  have HL := Aside0.mk (Left_any s hs p g hp w HR.out)
  obtain ⟨m, hm⟩ : ∃ m : Nat, 8 * s.size - p = m := ⟨_, rfl⟩
  obtain ⟨Z, hZ⟩ : ∃ Z : Nat, zeros s p m = Z := ⟨_, rfl⟩
  have HU := Aside0.mk (show unaryR s p = if 16777216 < Z then (0, 11, p) else if Z = m then (0, 10, p) else (Z, 0, p + Z + 1) by unfold unaryR; rw [hm, hZ])
  have hZm : Z ≤ m := by rw [← hZ]; exact zeros_le s m p
  have HZ0 := Aside0.mk (fun i (h : i < Z) => zeros_bit s m p i (by rw [hZ]; exact h))
  have HZ1 := Aside0.mk (fun (h : Z < m) => by have := zeros_end s m p (by rw [hZ]; exact h); rw [hZ] at this; exact this)
  rw [hm] at HL
  have HPM := Aside0.mk (show p + m = 8 * s.size by omega)
  have hp1 : p ≤ 2251799813685248 := by omega
  have hm1 : m ≤ 2251799813685248 := by omega
  clear hm hZ
  go_enter Try.func64, Try.ntmps64
  go_wp2_with fail
  refine HL.out.mono ?_
  rintro e w1 ⟨rfl, hd⟩
  have HR1 := Aside0.mk (HR.out.drawn hd)
  have HT1 := Aside0.mk ((Turned.refl B g w).drawn hd)
  clear hd HL
  go_wp2
  go_loopg [4] m (fun k i wr => ∃ d : Nat, d + k = m ∧ d ≤ Z ∧ Aside0 (d ≤ 16777216) ∧ i = .int .i64 d ∧ Aside0 (RAt wr g s p) ∧ Aside0 (Turned B g w wr))
  case atStart => exact ⟨0, by omega, by omega, ⟨by omega⟩, rfl, HR1, HT1⟩
  case round =>
    obtain ⟨d, hdk, hdZ, HDL, rfl, HR2, HT2⟩ := hrel
    have hdl := HDL.out
    have c0 := HR2.out.place
    by_cases hlt : d < m
    · have i1 : (d : Int) < (m : Int) := by omega
      have HPK := Aside0.mk (fun W hW => peek_any s p (p + d) g (by have := HPM.out; omega) hs W hW)
      by_cases hz : d < Z
      · rw [HZ0.out d hz] at HPK
        obtain ⟨q, hq⟩ : ∃ q, p + d = q := ⟨_, rfl⟩
        rw [hq] at HPK
        have eq1 : (p : Int) + (d : Int) = (q : Int) := by omega
        have hq2 : q ≤ 4503599627370496 := by omega
        clear hq
        go_wp2_with fail
        refine (at_any g _ _ c0).mono ?_
        rintro e w2 ⟨rfl, rfl⟩
        go_wp2_with fail
        refine (HPK.out _ HR2.out).mono ?_
        rintro e w3 ⟨rfl, hd⟩
        have HR3 := Aside0.mk (HR2.out.drawn hd)
        have HT3 := Aside0.mk (HT2.out.drawn hd)
        clear hd
        by_cases h16 : d = 16777216
        · have HU1 := Aside0.mk (HU.out.trans (if_pos (by omega)))
          have i3 : (16777216 : Int) < (d : Int) + 1 := by omega
          clear h16
          go_wp2
          go_ret2
          rw [HU1.out]
          exact ⟨rfl, HR3.out, HT3.out⟩
        · have b3 : decide ((16777216 : Int) < (d : Int) + 1) = false := decide_eq_false (by omega)
          have H17 := Aside0.mk (show d < 16777216 by omega)
          clear h16 hdl
          go_wp2
          have h17 := H17.out
          go_roundg (gk - 1)
          case measure => omega
          case rel => exact ⟨d + 1, by omega, by omega, ⟨by omega⟩, by go_num, HR3, HT3⟩
      · obtain rfl : d = Z := by omega
        rw [HZ1.out hlt] at HPK
        have HU1 := Aside0.mk (HU.out.trans ((if_neg (by omega)).trans (if_neg (by omega))))
        have hne : ((d : Int) == (m : Int)) = false := by simp; omega
        have hne2 : ¬ (d : Int) = (m : Int) := by omega
        obtain ⟨q, hq⟩ : ∃ q, p + d = q := ⟨_, rfl⟩
        rw [hq] at HPK HU1
        have eq1 : (p : Int) + (d : Int) = (q : Int) := by omega
        have hq2 : q ≤ 4503599627370496 := by omega
        have HQ := Aside0.mk hq
        clear hq HU
        go_wp2_with fail
        refine (at_any g _ _ c0).mono ?_
        rintro e w2 ⟨rfl, rfl⟩
        go_wp2_with fail
        refine (HPK.out _ HR2.out).mono ?_
        rintro e w3 ⟨rfl, hd⟩
        have HR3 := Aside0.mk (HR2.out.drawn hd)
        have HT3 := Aside0.mk (HT2.out.drawn hd)
        clear hd c0
        have c0 := HR3.out.place
        have f0 := blk_frozen HR3.out 0
        go_wp2_with fail
        refine (on_any g p ((d : Int) + 1) _ c0 f0 (by omega) (by omega) (by omega) (by omega)).mono ?_
        rintro e w2 ⟨rfl, rfl⟩
        go_wp2
        go_ret2
        rw [HU1.out]
        refine ⟨rfl, ?_, HT3.out.set hB 0 _⟩
        have := HR3.out.to (q := q + 1)
        rw [show ((q + 1 : Nat) : Int) = (p : Int) + ((d : Int) + 1) by have := HQ.out; omega] at this
        exact this
    · obtain rfl : d = m := by omega
      have hzm : Z = d := by omega
      have HU1 := Aside0.mk (HU.out.trans ((if_neg (by omega)).trans (if_pos hzm)))
      clear hzm HU
      go_wp2
      go_ret2
      rw [HU1.out]
      exact ⟨rfl, HR2.out, HT2.out⟩
end Go.Proofs.Ytfhekkoibmlmpaa.Hand

/- Contracts of layer 1, proved by hand: a reader's Signed, Align, Rice. -/
namespace Go.Proofs.Ytfhekkoibmlmpaa.Hand
open Go.RowKit Go.Proofs.YtfhekkoibmlmpaaW.PrintWords Go.Proofs.YtfhekkoibmlmpaaW.PrintLast Go.Proofs.YtfhekkoibmlmpaaW.PrintMore
set_option linter.unusedVariables false
set_option linter.unusedSimpArgs false

theorem sign_shift (n K M : Nat) (hM : K + M = 64) (h1 : 1 ≤ K) (hn : n < 2 ^ K) : wrap64 (IntKind.u64.wrap ((n : Int) * 2 ^ M)) / 2 ^ M = signOf n K := by
  have hp : (2 : Int) ^ M = ((2 ^ M : Nat) : Int) := by simp
  have hk : (2 : Int) ^ K = ((2 ^ K : Nat) : Int) := by simp
  have hpos := Nat.two_pow_pos M
  have e1 : 2 ^ K * 2 ^ M = 18446744073709551616 := by rw [← Nat.pow_add, hM]
  have e2 : 2 ^ (K - 1) * 2 ^ M = 9223372036854775808 := by rw [← Nat.pow_add, show K - 1 + M = 63 by omega]
  have hlt : n * 2 ^ M < 18446744073709551616 := by rw [← e1]; exact Nat.mul_lt_mul_of_pos_right hn hpos
  have ew : IntKind.u64.wrap ((n : Int) * 2 ^ M) = ((n * 2 ^ M : Nat) : Int) := by
    rw [hp, ← Int.natCast_mul, u64_wrap]
    omega
  rw [ew]
  unfold signOf wrap64
  by_cases h : n < 2 ^ (K - 1)
  · have hl2 : n * 2 ^ M < 9223372036854775808 := by rw [← e2]; exact Nat.mul_lt_mul_of_pos_right h hpos
    rw [if_pos h, show (((n * 2 ^ M : Nat) : Int) + 9223372036854775808) % 18446744073709551616 - 9223372036854775808 = ((n * 2 ^ M : Nat) : Int) by omega, hp, ← Int.natCast_ediv, Nat.mul_div_cancel _ hpos]
  · have hl2 : 9223372036854775808 ≤ n * 2 ^ M := by rw [← e2]; exact Nat.mul_le_mul_right _ (by omega)
    rw [if_neg h, show (((n * 2 ^ M : Nat) : Int) + 9223372036854775808) % 18446744073709551616 - 9223372036854775808 = ((n * 2 ^ M : Nat) : Int) - ((2 ^ K * 2 ^ M : Nat) : Int) by omega, hp, hk, Int.natCast_mul, Int.natCast_mul, ← Int.sub_mul, Int.mul_ediv_cancel _ (by omega)]
/-- What a reader's Signed gives. -/
def signedR (s : ByteArray) (p : Nat) (k : Int) : Int × Int × Nat :=
  if k < 1 then (0, 11, p) else if (getR s p k).2.1 = 0 then (signOf (getR s p k).1 k.toNat, 0, (getR s p k).2.2) else (0, (getR s p k).2.1, p)
theorem getR_err (s : ByteArray) (p : Nat) (k : Int) (h : ¬ (getR s p k).2.1 = 0) : (getR s p k).2.2 = p ∧ (getR s p k).1 = 0 := by
  unfold getR at h ⊢
  split
  · exact ⟨rfl, rfl⟩
  · split
    · exact ⟨rfl, rfl⟩
    · rename_i h1 h2
      rw [if_neg h1, if_neg h2] at h
      exact absurd rfl h
theorem getR_ok (s : ByteArray) (p : Nat) (k : Int) (h : (getR s p k).2.1 = 0) : 0 ≤ k ∧ k ≤ 64 ∧ getR s p k = (numAt s p k.toNat, 0, p + k.toNat) := by
  unfold getR at h ⊢
  by_cases h1 : k < 0 ∨ 64 < k
  · rw [if_pos h1] at h; cases h
  · rw [if_neg h1] at h ⊢
    by_cases h2 : ((8 * s.size - p : Nat) : Int) < k
    · rw [if_pos h2] at h; cases h
    · rw [if_neg h2]
      exact ⟨by omega, by omega, rfl⟩
set_option maxHeartbeats 2000000 in
set_option maxRecDepth 100000 in
theorem SignedR_any (s : ByteArray) (hs : s.size ≤ 281474976710656) (p : Nat) (hp : p ≤ 8 * s.size) (k : Int) (B g : Nat) (hB : B ≤ g) (w : World) (h : RAt w g s p) :
    Calls Try.prog 58 #[.pointer (some ⟨g, 0, none⟩), .int .i64 k] w fun e w' => e = .returned (.tuple #[.int .i64 (signedR s p k).1, .int .i64 (signedR s p k).2.1]) ∧ RAt w' g s (signedR s p k).2.2 ∧ Turned B g w w' := by
  have hup := Try.underlying45
  have HR := Aside0.mk h
  clear h
  by_cases h1 : k < 1
  · have he : signedR s p k = (0, 11, p) := if_pos h1
    rw [he]
    clear he
    go_enter Try.func58, Try.ntmps58
    go_wp2
    go_ret2
    exact ⟨rfl, HR.out, Turned.refl _ _ _⟩
  · have HG := Aside0.mk (Get_any s hs p hp k B g hB w HR.out)
    by_cases h0 : (getR s p k).2.1 = 0
    · have he : signedR s p k = (signOf (getR s p k).1 k.toNat, 0, (getR s p k).2.2) := by unfold signedR; rw [if_neg h1, if_pos h0]
      obtain ⟨k0, k1, hg⟩ := getR_ok s p k h0
      rw [he]
      rw [hg] at HG ⊢
      have hlt := numAt_lt s p k.toNat
      obtain ⟨K, rfl⟩ : ∃ K : Nat, k = (K : Int) := ⟨k.toNat, by omega⟩
      obtain ⟨M, hM⟩ : ∃ M, K + M = 64 := ⟨64 - K, by omega⟩
      rw [Int.toNat_natCast] at hlt HG ⊢
      have hsg := sign_shift (numAt s p K) K M hM (by omega) hlt
      generalize numAt s p K = n at hlt hsg HG ⊢
      generalize signOf n K = r at hsg ⊢
      have eM : (64 : Int) - (K : Int) = (M : Int) := by omega
      have m0 : (0 : Int) ≤ (M : Int) := by omega
      have m1 : (M : Int) < 64 := by omega
      clear he hg h0 hlt hM
      go_enter Try.func58, Try.ntmps58
      go_wp2_with fail
      refine HG.out.mono ?_
      rintro e w1 ⟨rfl, hr, ht⟩
      have HR1 := Aside0.mk hr
      have HT1 := Aside0.mk ht
      clear hr ht
      go_wp2
      go_ret2
      exact ⟨rfl, HR1.out, HT1.out⟩
    · have he : signedR s p k = (0, (getR s p k).2.1, p) := by unfold signedR; rw [if_neg h1, if_neg h0]
      rw [he]
      obtain ⟨e1, e2⟩ := getR_err s p k h0
      rw [e1, e2] at HG
      generalize (getR s p k).2.1 = er at HG h0 ⊢
      clear he e1 e2
      have hb : (er == 0) = false := by simpa using h0
      have hb2 : (er != 0) = true := by simpa using h0
      go_enter Try.func58, Try.ntmps58
      go_wp2_with fail
      refine HG.out.mono ?_
      rintro e w1 ⟨rfl, hr, ht⟩
      have HR1 := Aside0.mk hr
      have HT1 := Aside0.mk ht
      clear hr ht
      go_wp2
      go_ret2
      exact ⟨rfl, HR1.out, HT1.out⟩
end Go.Proofs.Ytfhekkoibmlmpaa.Hand

/- Contracts of layer 1, proved by hand: a reader's Rice. -/
namespace Go.Proofs.Ytfhekkoibmlmpaa.Hand
open Go.RowKit Go.Proofs.YtfhekkoibmlmpaaW.PrintWords Go.Proofs.YtfhekkoibmlmpaaW.PrintLast Go.Proofs.YtfhekkoibmlmpaaW.PrintMore
set_option linter.unusedVariables false
set_option linter.unusedSimpArgs false

theorem unaryR_err (s : ByteArray) (p : Nat) (h : ¬ (unaryR s p).2.1 = 0) : (unaryR s p).2.2 = p ∧ (unaryR s p).1 = 0 := by
  unfold unaryR at h ⊢
  split
  · exact ⟨rfl, rfl⟩
  · split
    · exact ⟨rfl, rfl⟩
    · rename_i h1 h2
      rw [if_neg h1, if_neg h2] at h
      exact absurd rfl h
theorem unaryR_ok (s : ByteArray) (p : Nat) (hp : p ≤ 8 * s.size) (h : (unaryR s p).2.1 = 0) : (unaryR s p).1 ≤ 16777216 ∧ (unaryR s p).2.2 = p + (unaryR s p).1 + 1 ∧ (unaryR s p).2.2 ≤ 8 * s.size := by
  have hz := zeros_le s (8 * s.size - p) p
  unfold unaryR at h ⊢
  by_cases h1 : 16777216 < zeros s p (8 * s.size - p)
  · rw [if_pos h1] at h; cases h
  · rw [if_neg h1] at h ⊢
    by_cases h2 : zeros s p (8 * s.size - p) = 8 * s.size - p
    · rw [if_pos h2] at h; cases h
    · rw [if_neg h2]
      exact ⟨by omega, rfl, by show p + zeros s p (8 * s.size - p) + 1 ≤ _; omega⟩
theorem unaryR_at (s : ByteArray) (p : Nat) (hp : p ≤ 8 * s.size) : (unaryR s p).2.2 ≤ 8 * s.size := by
  by_cases h : (unaryR s p).2.1 = 0
  · exact (unaryR_ok s p hp h).2.2
  · rw [(unaryR_err s p h).1]; exact hp
/-- A number from 0 on as one of either sign. -/
def unfoldN (u : Nat) : Int := if u % 2 = 0 then ((u / 2 : Nat) : Int) else -((u / 2 : Nat) : Int) - 1
theorem unfold_fold (n : Int) : unfoldN (foldN n) = n := by
  unfold unfoldN foldN
  split <;> split <;> omega
theorem unfold_bits (x b : Nat) (hx : x < 9223372036854775808) (hb : b < 2) : Go.bits .xor .i64 (x : Int) (-(b : Int)) = unfoldN (2 * x + b) := by
  have e : Go.bits .xor .i64 (x : Int) (-(b : Int)) = IntKind.i64.wrap ((BitVec.ofInt 64 (x : Int) ^^^ BitVec.ofInt 64 (-(b : Int))).toNat : Int) := rfl
  have e1 : (BitVec.ofInt 64 (x : Int)).toNat = x := by rw [BitVec.toNat_ofInt]; omega
  rw [e]
  unfold unfoldN
  have hb2 : b = 0 ∨ b = 1 := by omega
  rcases hb2 with rfl | rfl
  · rw [show BitVec.ofInt 64 (-((0 : Nat) : Int)) = 0#64 by decide, BitVec.xor_zero, e1, if_pos (by omega), IntKind.wrap_i64]
    omega
  · rw [show BitVec.ofInt 64 (-((1 : Nat) : Int)) = BitVec.allOnes 64 by decide, BitVec.xor_allOnes, BitVec.toNat_not, e1, if_neg (by omega), IntKind.wrap_i64]
    omega
theorem or_part (q K l : Nat) (hl : l < 2 ^ K) (h : q * 2 ^ K + l < 18446744073709551616) : Go.bits .or .u64 ((q : Int) * 2 ^ K) (l : Int) = ((q * 2 ^ K + l : Nat) : Int) := by
  have e : Go.bits .or .u64 ((q : Int) * 2 ^ K) (l : Int) = IntKind.u64.wrap ((BitVec.ofInt 64 ((q : Int) * 2 ^ K) ||| BitVec.ofInt 64 (l : Int)).toNat : Int) := rfl
  have hp : (q : Int) * 2 ^ K = ((q * 2 ^ K : Nat) : Int) := by simp
  have e1 : (BitVec.ofInt 64 ((q * 2 ^ K : Nat) : Int)).toNat = q <<< K := by rw [BitVec.toNat_ofInt, Nat.shiftLeft_eq]; omega
  have e2 : (BitVec.ofInt 64 (l : Int)).toNat = l := by rw [BitVec.toNat_ofInt]; omega
  rw [e, hp, BitVec.toNat_or, e1, e2, ← Nat.shiftLeft_add_eq_or_of_lt hl, Nat.shiftLeft_eq, u64_wrap]
  omega
/-- What a reader's Rice gives. -/
def riceR (s : ByteArray) (p : Nat) (k : Int) : Int × Int × Nat :=
  if k < 0 ∨ 30 < k then (0, 11, p)
  else if (unaryR s p).2.1 = 0 then
    (if (getR s (unaryR s p).2.2 k).2.1 = 0 then (unfoldN ((unaryR s p).1 * 2 ^ k.toNat + (getR s (unaryR s p).2.2 k).1), 0, (getR s (unaryR s p).2.2 k).2.2)
     else (0, (getR s (unaryR s p).2.2 k).2.1, p))
  else (0, (unaryR s p).2.1, p)
theorem RAt.new {w : World} {g p : Nat} {s : ByteArray} (h : RAt w g s p) (o : Obj) : RAt (w.alloc o) g s p := h.below (below_alloc (Below.refl _ _) o)
theorem Turned.alloc {B g : Nat} {w w1 : World} (h : Turned B g w w1) (hB : B ≤ w1.heap.size) (o : Obj) : Turned B g w (w1.alloc o) := h.new (below_alloc (Below.refl _ _) o) hB
set_option maxHeartbeats 4000000 in
set_option maxRecDepth 100000 in
theorem RiceR_any (s : ByteArray) (hs : s.size ≤ 281474976710656) (p : Nat) (hp : p ≤ 8 * s.size) (k : Int) (B g : Nat) (hB : B ≤ g) (w : World) (h : RAt w g s p) :
    Calls Try.prog 57 #[.pointer (some ⟨g, 0, none⟩), .int .i64 k] w fun e w' => e = .returned (.tuple #[.int .i64 (riceR s p k).1, .int .i64 (riceR s p k).2.1]) ∧ RAt w' g s (riceR s p k).2.2 ∧ Turned B g w w' := by
  have hup := Try.underlying45
  have HR := Aside0.mk h
  have c0 := h.place
  have hg := h.lt
  clear h
  by_cases h1 : k < 0
  · have he : riceR s p k = (0, 11, p) := if_pos (.inl h1)
    rw [he]
    clear he
    go_enter Try.func57, Try.ntmps57
    go_wp2
    go_ret2
    exact ⟨rfl, HR.out, Turned.refl _ _ _⟩
  · by_cases h2 : 30 < k
    · have he : riceR s p k = (0, 11, p) := if_pos (.inr h2)
      rw [he]
      clear he
      go_enter Try.func57, Try.ntmps57
      go_wp2
      go_ret2
      exact ⟨rfl, HR.out, Turned.refl _ _ _⟩
    · have HDEF : Aside0 (riceR s p k = if (unaryR s p).2.1 = 0 then (if (getR s (unaryR s p).2.2 k).2.1 = 0 then (unfoldN ((unaryR s p).1 * 2 ^ k.toNat + (getR s (unaryR s p).2.2 k).1), 0, (getR s (unaryR s p).2.2 k).2.2) else (0, (getR s (unaryR s p).2.2 k).2.1, p)) else (0, (unaryR s p).2.1, p)) := ⟨by unfold riceR; rw [if_neg (by omega)]⟩
      have HW := Aside0.mk (HR.out.new (.cells #[.int .i64 p] 62))
      have HTW := Aside0.mk ((Turned.refl B g w).alloc (by omega) (.cells #[.int .i64 p] 62))
      have HBK := Aside0.mk (blk_new w (.cells #[.int .i64 p] 62))
      have HU := Aside0.mk (UnaryR_any s hs p hp B g hB _ HW.out)
      obtain ⟨bk, hbk⟩ : ∃ bk, w.heap.size = bk := ⟨_, rfl⟩
      have HBG := Aside0.mk (show bk ≠ g by omega)
      rw [hbk] at HBK
      have HBE := Aside0.mk hbk
      by_cases hu0 : (unaryR s p).2.1 = 0
      · obtain ⟨hq1, hq2, hq3⟩ := unaryR_ok s p hp hu0
        rw [if_pos hu0] at HDEF
        rw [hu0] at HU
        generalize (unaryR s p).1 = q at hq1 hq2 HU HDEF
        generalize (unaryR s p).2.2 = p1 at hq2 hq3 HU HDEF
        have HG := Aside0.mk (fun W hW => Get_any s hs p1 hq3 k B g hB W hW)
        by_cases hg0 : (getR s p1 k).2.1 = 0
        · obtain ⟨k0, k1, hgr⟩ := getR_ok s p1 k hg0
          rw [if_pos hg0] at HDEF
          rw [hgr] at HG HDEF
          have hlt := numAt_lt s p1 k.toNat
          obtain ⟨K, rfl⟩ : ∃ K : Nat, k = (K : Int) := ⟨k.toNat, by omega⟩
          rw [Int.toNat_natCast] at hlt HG HDEF
          have HDEF2 : Aside0 (riceR s p K = (unfoldN (q * 2 ^ K + numAt s p1 K), 0, p1 + K)) := HDEF
          clear HDEF
          generalize numAt s p1 K = l at hlt HG HDEF2
          have hK : K ≤ 30 := by omega
          have hpow : 2 ^ K ≤ 2 ^ 30 := Nat.pow_le_pow_right (by decide) hK
          have hq4 : q * 2 ^ K ≤ 16777216 * 2 ^ 30 := Nat.mul_le_mul hq1 hpow
          have hor := or_part q K l hlt (by omega)
          have hwr : IntKind.u64.wrap ((q : Int) * 2 ^ K) = (q : Int) * 2 ^ K := by
            have hp : (q : Int) * 2 ^ K = ((q * 2 ^ K : Nat) : Int) := by simp
            rw [hp]
            generalize q * 2 ^ K = y at hq4
            rw [u64_wrap]
            omega
          obtain ⟨u, hu⟩ : ∃ u, q * 2 ^ K + l = u := ⟨_, rfl⟩
          rw [hu] at hor HDEF2
          have hu1 : u < 36028797018963968 := by omega
          obtain ⟨x, hx⟩ : ∃ x, u / 2 = x := ⟨_, rfl⟩
          obtain ⟨b, hb⟩ : ∃ b, u % 2 = b := ⟨_, rfl⟩
          have hun := unfold_bits x b (by omega) (by omega)
          rw [show 2 * x + b = u by omega] at hun
          have ha := and_mask_u64 1 (by decide) (u : Int) 1 (by omega) (by omega) rfl
          rw [show (2 : Int) ^ 1 = 2 from rfl, show (u : Int) % 2 = (b : Int) by omega] at ha
          have ex : (u : Int) / 2 = (x : Int) := by omega
          have em : (u : Int) % 2 = (b : Int) := by omega
          have x1 : x < 36028797018963968 := by omega
          have b1 : b < 2 := by omega
          have k30 : (K : Int) ≤ 30 := by omega
          generalize unfoldN u = r at hun HDEF2
          clear hgr hg0 hlt hpow hq4 hu hx hb hu0 hq2 hbk h1 h2
          go_enter Try.func57, Try.ntmps57
          go_wp2_with fail
          refine HU.out.mono ?_
          rintro e w1 ⟨rfl, hr1, ht1⟩
          have HR1 := Aside0.mk hr1
          have HT1 := Aside0.mk (HTW.out.trans ht1)
          clear hr1 ht1
          go_wp2_with fail
          refine (HG.out _ HR1.out).mono ?_
          rintro e w2 ⟨rfl, hr2, ht2⟩
          have HR2 := Aside0.mk hr2
          have HT2 := Aside0.mk (HT1.out.trans ht2)
          clear hr2 ht2
          go_wp2
          go_ret2
          rw [HDEF2.out]
          exact ⟨rfl, HR2.out, HT2.out⟩
        · rw [if_neg hg0] at HDEF
          obtain ⟨e1, e2⟩ := getR_err s p1 k hg0
          rw [e1, e2] at HG
          generalize (getR s p1 k).2.1 = er at HG HDEF hg0
          have hb : (er == 0) = false := by simpa using hg0
          have hb2 : (er != 0) = true := by simpa using hg0
          clear e1 e2 hu0 hq2 hbk
          go_enter Try.func57, Try.ntmps57
          go_wp2_with fail
          refine HU.out.mono ?_
          rintro e w1 ⟨rfl, hr1, ht1⟩
          have HR1 := Aside0.mk hr1
          have HT1 := Aside0.mk (HTW.out.trans ht1)
          have HB1 := Aside0.mk (blk_kept HBK.out ht1.kept HBG.out)
          clear hr1 ht1
          go_wp2_with fail
          refine (HG.out _ HR1.out).mono ?_
          rintro e w2 ⟨rfl, hr2, ht2⟩
          have HR2 := Aside0.mk hr2
          have HT2 := Aside0.mk (HT1.out.trans ht2)
          have c1 : w2.cell? ⟨bk, 0, none⟩ = some (.int .i64 p) := blk_cell (blk_kept HB1.out ht2.kept HBG.out) 0
          have f0 : w2.frozen? ⟨g, 0, none⟩ = false := blk_frozen hr2 0
          have c2 := hr2.place
          rw [← HBE.out] at c1
          clear hr2 ht2
          go_wp2
          go_ret2
          rw [HDEF.out]
          exact ⟨rfl, HR2.out.to, HT2.out.set hB 0 _⟩
      · rw [if_neg hu0] at HDEF
        obtain ⟨e1, e2⟩ := unaryR_err s p hu0
        rw [e1, e2] at HU
        generalize (unaryR s p).2.1 = er at HU HDEF hu0
        have hb : (er == 0) = false := by simpa using hu0
        have hb2 : (er != 0) = true := by simpa using hu0
        clear e1 e2 hbk
        go_enter Try.func57, Try.ntmps57
        go_wp2_with fail
        refine HU.out.mono ?_
        rintro e w1 ⟨rfl, hr1, ht1⟩
        have HR1 := Aside0.mk hr1
        have HT1 := Aside0.mk (HTW.out.trans ht1)
        clear hr1 ht1
        go_wp2
        go_ret2
        rw [HDEF.out]
        exact ⟨rfl, HR1.out, HT1.out⟩
end Go.Proofs.Ytfhekkoibmlmpaa.Hand

/- Contracts of layer 8, proved by hand: cut. -/
namespace Go.Proofs.Ytfhekkoibmlmpaa.Hand
open Go.RowKit Go.Proofs.Ytfhekkoibmlmpaa.Q Go.Proofs.YtfhekkoibmlmpaaW.PrintWords Go.Proofs.YtfhekkoibmlmpaaW.PrintLast Go.Proofs.YtfhekkoibmlmpaaW.PrintMore
set_option linter.unusedVariables false
set_option linter.unusedSimpArgs false
attribute [local go_sem] max2_int min2_int max_two min_two

/-- A cut with its own capacity. -/
theorem run_cut3 {P : Program} {t e : TypeId} {i : TypeInfo} (ht : P.underlying t = some (.slice e)) (hi : P.info? e = some i) (hsz : i.size = 1) (A : Option Addr) (n c : Nat) (lo hi' : Nat) (h1 : lo ≤ hi') (h2 : hi' ≤ c) (W : World) :
    (Instr.slice t (.slice A n c) (some (.int .i64 lo)) (some (.int .i64 hi')) (some (.int .i64 hi'))).run P W = .ok (.slice (if hi' = lo then A else A.map (·.add lo)) (hi' - lo) (hi' - lo)) W := by
  have hel : P.elem t = e := by simp [Program.elem, ht]
  have hu : P.underlying t = some (.slice (P.elem t)) := by rw [hel]; exact ht
  rw [run_slice_any W t A n c hu]
  have e1 : (0 : Int) ≤ (lo : Int) := by omega
  have e2 : (lo : Int) ≤ (hi' : Int) := by omega
  have e3 : (hi' : Int) ≤ (c : Int) := by omega
  simp [Instr.sliceBounds, run_sliceBound, e1, e2, e3, hel, sizeOf, typeInfo, hi, hsz, sliced, Result.andThen, h1, h2]
set_option maxHeartbeats 4000000 in
set_option maxRecDepth 100000 in
theorem cut_core (A A' : Option Addr) (len c nn : Nat) (m : Int) (AP AE : Option Addr) (nP cP nE cE : Nat) (bI oI dI iI nI pI qI xI fI tI : Int) (ho : 0 ≤ oI) (hsh : bI / 2 ^ min oI.toNat 64 = nI) (hp : iI * nI = pI) (hq : (iI + 1) * nI = qI) (hx : pI - dI = xI) (hy : qI - dI = tI)
    (i0 : 0 ≤ iI) (i1 : iI ≤ 1000000) (n0 : 0 ≤ nI) (n1 : nI ≤ 1000000) (p0 : 0 ≤ pI) (p1 : pI ≤ 1000000000000) (q0 : 0 ≤ qI) (q1 : qI ≤ 1000000000000) (d0 : 0 ≤ dI) (d1 : dI ≤ 1000000)
    (hf : (¬ 0 < xI ∧ fI = 0) ∨ (0 < xI ∧ fI = xI)) (w : World)
    (hc : ∀ W : World, (Instr.slice 22 (.slice A len c) (some (.int .i64 fI)) (some (.int .i64 tI)) (some (.int .i64 tI))).run Try.prog W = .ok (.slice A' nn nn) W) :
    Calls Try.prog 32 #[.slice A len c, .agg #[.int .i64 m, .int .i64 oI, .slice AP nP cP, .slice AE nE cE], .int .i64 bI, .int .i64 dI, .int .i64 iI] w fun e w' => e = .returned (.slice A' nn nn) ∧ Below w.heap.size w w' := by
  have HB := Aside0.mk (Below.refl w.heap.size w)
  rcases hf with ⟨hf, rfl⟩ | ⟨hf, rfl⟩
  · go_enter Try.func32, Try.ntmps32
    go_wp2
    go_ret
    exact ⟨rfl, below_alloc HB.out _⟩
  · go_enter Try.func32, Try.ntmps32
    go_wp2
    go_ret
    exact ⟨rfl, below_alloc HB.out _⟩
theorem shr_small (b o : Nat) (ho : o ≤ 64) : (b : Int) / 2 ^ min ((o : Int)).toNat 64 = ((b / 2 ^ o : Nat) : Int) := by
  rw [Int.toNat_natCast, Nat.min_eq_left ho]
  simp
theorem cut_any (l : List Int) (A : Option Addr) (c : Nat) (m : Int) (o : Nat) (AP AE : Option Addr) (nP cP nE cE : Nat) (block order i n f t : Nat) (ho : o ≤ 15) (hb : block ≤ 65535) (hord : order ≤ 32) (hi : i ≤ 65536) (hn : block / 2 ^ o = n)
    (hf : i * n - order = f) (ht : (i + 1) * n = t + order) (htl : t ≤ l.length) (hl : l.length ≤ 65535) (hc : l.length ≤ c) (w : World) (hA : Kd.C (Kd.int .i64) w A l.length l) :
    Calls Try.prog 32 #[.slice A l.length c, .agg #[.int .i64 m, .int .i64 o, .slice AP nP cP, .slice AE nE cE], .int .i64 block, .int .i64 order, .int .i64 i] w fun e w' => ∃ A', e = .returned (.slice A' ((l.take t).drop f).length ((l.take t).drop f).length) ∧ Kd.C (Kd.int .i64) w' A' ((l.take t).drop f).length ((l.take t).drop f) ∧ (∀ ad', A' = some ad' → ∃ ad, A = some ad ∧ ad'.block = ad.block) ∧ Below w.heap.size w w' := by
  have hmul : (i + 1) * n = i * n + n := Nat.succ_mul i n
  have hft : f ≤ t := by omega
  have hlen : ((l.take t).drop f).length = t - f := by rw [List.length_drop, List.length_take]; omega
  have hlt : (l.take t).length = t := by rw [List.length_take]; omega
  obtain ⟨i0, hi0, hz⟩ : ∃ i0, Try.prog.info? 3 = some i0 ∧ i0.size = 1 := by
    obtain ⟨i0, h1, h2⟩ := Option.map_eq_some_iff.1 (show (Try.prog.info? 3).map (fun i => i.size) = some 1 by kernel_rfl)
    exact ⟨i0, h1, h2⟩
  have hn1 : n ≤ 65535 := by rw [← hn]; exact Nat.le_trans (Nat.div_le_self _ _) hb
  have hpm : i * n ≤ 65536 * 65535 := Nat.mul_le_mul hi hn1
  refine (cut_core A (if t = f then A else A.map (·.add f)) l.length c (t - f) m AP AE nP cP nE cE block o order i n (i * n : Nat) ((i + 1) * n : Nat) ((i * n : Nat) - order) f t (by omega) (by rw [shr_small _ _ (by omega), hn]) (by simp) (by simp) rfl (by omega) (by omega) (by omega) (by omega) (by omega) (by omega) (by omega) (by omega) (by omega) (by omega) (by omega)
    (by omega) w (run_cut3 Try.underlying22 hi0 hz A l.length c f t hft (by omega))).mono fun e w' ⟨h1, h2⟩ => ⟨_, by rw [hlen]; exact h1, ?_, ?_, h2⟩
  rotate_left
  · intro ad' h
    split at h
    · exact ⟨ad', h, rfl⟩
    · obtain ⟨ad, h3, h4⟩ := Option.map_eq_some_iff.1 h
      refine ⟨ad, h3, ?_⟩
      rw [← h4]
      unfold Addr.add
      split <;> rfl
  have h3 := Kd.C_drop (c := t) (m := f) (Kd.C_take (Kd.C_below hA h2) htl) (by omega) (by omega)
  simpa [Kd.int, Kd.scalar] using h3
end Go.Proofs.Ytfhekkoibmlmpaa.Hand

/- Contracts of layer 8, proved by hand: may. -/
namespace Go.Proofs.Ytfhekkoibmlmpaa.Hand
open Go.RowKit Go.Proofs.Ytfhekkoibmlmpaa.Q Go.Proofs.YtfhekkoibmlmpaaW.PrintWords Go.Proofs.YtfhekkoibmlmpaaW.PrintLast Go.Proofs.YtfhekkoibmlmpaaW.PrintMore
set_option linter.unusedVariables false
set_option linter.unusedSimpArgs false

/-- Can a residual be written? -/
def mayOk (k esc x : Int) : Bool := if esc < 0 then decide (foldN x / 2 ^ k.toNat ≤ 16777216) else if 0 < esc then decide (fitsP x esc) else decide (x = 0)
def mayF (l : List Int) (k esc : Int) : Bool := l.all (mayOk k esc)
theorem mayF_snoc (l : List Int) (i : Nat) (k esc : Int) (h : i < l.length) (h1 : mayF (l.take i) k esc = true) (h2 : mayOk k esc (rd l (i : Int)) = true) : mayF (l.take (i + 1)) k esc = true := by
  have ht : l.take (i + 1) = l.take i ++ [rd l (i : Int)] := by
    rw [List.take_succ_eq_append_getElem h]
    simp [rd, h]
  unfold mayF at h1 ⊢
  rw [ht, List.all_append, h1]
  simp [h2]
theorem mayF_bad (l : List Int) (i : Nat) (k esc : Int) (h : i < l.length) (h2 : ¬ mayOk k esc (rd l (i : Int)) = true) : mayF l k esc = false := by
  unfold mayF
  rw [List.all_eq_false]
  exact ⟨_, by simp [rd, h], h2⟩
theorem rd_mem (l : List Int) (i : Nat) (h : i < l.length) : rd l (i : Int) ∈ l := by simp [rd, h]
set_option maxHeartbeats 8000000 in
set_option maxRecDepth 100000 in
theorem may_any (l : List Int) (A : Option Addr) (c : Nat) (k esc : Int) (w : World) (hr : ReadsInt w .i64 A l.length l) (hl : l.length ≤ 65535) (hin : ∀ n ∈ l, -9223372036854775808 ≤ n ∧ n ≤ 9223372036854775807) (k0 : 0 ≤ k) (k1 : k ≤ 30) (e0 : -1 ≤ esc) (e1 : esc ≤ 31) :
    Calls Try.prog 31 #[.slice A l.length c, .int .i64 k, .int .i64 esc] w fun e w' => e = .returned (.bool (mayF l k esc)) ∧ Below w.heap.size w w' := by
  have HR := Aside0.mk hr
  have HI := Aside0.mk hin
  clear hr hin
  go_enter Try.func31, Try.ntmps31
  go_wp2_with fail
  refine (New_any _).mono ?_
  rintro e w1 ⟨rfl, rfl⟩
  have HE1 := Aside0.mk (new_at w w.heap.size (Nat.le_refl _))
  have HB1 : Aside0 (Below w.heap.size w (w.alloc (.cells #[.int .i64 0, .slice none 0 0] 64))) := ⟨below_alloc (Below.refl _ _) _⟩
  generalize w.alloc (.cells #[.int .i64 0, .slice none 0 0] 64) = w1 at HE1 HB1 ⊢
  obtain ⟨b, hbb⟩ : ∃ b, w.heap.size = b := ⟨_, rfl⟩
  have HBB := Aside0.mk hbb
  rw [hbb] at HE1 HB1 ⊢
  clear hbb
  go_wp2
  go_loopw [14] (fun iv wr => ∃ (i : Nat) (v : Value) (bs : List Bool), i ≤ l.length ∧ iv = .int .i64 i ∧ bs.length ≤ 64 * i ∧ Aside0 (mayF (l.take i) k esc = true) ∧ Aside0 (WAt wr b b v bs) ∧ Aside0 (Below b w wr)) (fun iv _ => l.length - (intOf iv).toNat)
  case atStart => exact ⟨0, _, [], by omega, rfl, by simp, ⟨rfl⟩, HE1, HB1⟩
  case round =>
    clear HE1 HB1
    obtain ⟨i, v, bs, hi, rfl, hbs, HM, HE, HB⟩ := hrel
    by_cases hlt : i < l.length
    · have i0 : (0 : Int) ≤ (i : Int) := by omega
      have i1 : (i : Int) < (l.length : Int) := by omega
      obtain ⟨ad, rfl, hx⟩ := (HR.out.below (by rw [HBB.out]; exact HB.out)).at_ (i : Int) (by omega) i1
      rw [Int.toNat_natCast] at hx
      have hxi := HI.out _ (rd_mem l i hlt)
      have HS := Aside0.mk (mayF_snoc l i k esc hlt HM.out)
      have HBAD := Aside0.mk (mayF_bad l i k esc hlt)
      obtain ⟨x0, x1⟩ := hxi
      generalize rd l (i : Int) = x at hx x0 x1 HS HBAD
      by_cases he : esc < 0
      · have hfold := fold_bits x x0 x1
        obtain ⟨f, hf⟩ : ∃ f : Int, (foldN x : Int) = f := ⟨_, rfl⟩
        rw [hf] at hfold
        obtain ⟨K, rfl⟩ := Int.eq_ofNat_of_zero_le k0
        have hs := shr_small (foldN x) K (by omega)
        obtain ⟨u, hu⟩ : ∃ u : Int, ((foldN x / 2 ^ K : Nat) : Int) = u := ⟨_, rfl⟩
        rw [hf, hu] at hs
        have hs2 : f / 2 ^ K = u := by
          rw [← hf, ← hu]
          simp
        have hok : mayOk (K : Int) esc x = decide (foldN x / 2 ^ K ≤ 16777216) := by unfold mayOk; rw [if_pos he, Int.toNat_natCast]
        by_cases hle : foldN x / 2 ^ K ≤ 16777216
        · have HS2 := Aside0.mk (HS.out (by rw [hok]; exact decide_eq_true hle))
          have hu2 : u ≤ 16777216 := by omega
          clear hok hle hu hf
          go_wp2
          go_roundw
          case rel => exact ⟨i + 1, v, bs, by omega, by go_num, by omega, HS2, HE, HB⟩
          case measure => simp [intOf]; omega
        · have HS2 := Aside0.mk (HBAD.out (by rw [hok, decide_eq_false hle]; decide))
          have hu2 : 16777216 < u := by omega
          clear hok hle hu hf
          go_wp2
          go_ret
          rw [HS2.out, HBB.out]
          exact ⟨rfl, HB.out⟩
      · by_cases he0 : 0 < esc
        · obtain ⟨E, rfl⟩ := Int.eq_ofNat_of_zero_le (show 0 ≤ esc by omega)
          have hok : mayOk k (E : Int) x = decide (fitsP x E) := by unfold mayOk; rw [if_neg he, if_pos he0]
          by_cases hfit : fitsP x E
          · have HS2 := Aside0.mk (HS.out (by rw [hok]; exact decide_eq_true hfit))
            have HSG := Aside0.mk (Signed_yes x E x0 x1 hfit bs b b v wr HE.out (by omega))
            clear hok hfit HE
            go_wp2_with fail
            refine HSG.out.mono ?_
            rintro e w2 ⟨rfl, v2, hE, hm⟩
            have HE2 := Aside0.mk hE
            have HB2 := Aside0.mk (HB.out.trans hm.below)
            clear hE hm
            go_wp2
            go_roundw
            case rel => exact ⟨i + 1, v2, _, by omega, by go_num, by rw [List.length_append, nbits_length]; omega, HS2, HE2, HB2⟩
            case measure => simp [intOf]; omega
          · have HS2 := Aside0.mk (HBAD.out (by rw [hok, decide_eq_false hfit]; decide))
            have HSG := Aside0.mk (Signed_no x E x0 x1 hfit b wr)
            have hlt9 := HE.out.lt
            clear hok hfit
            go_wp2_with fail
            refine HSG.out.mono ?_
            rintro e w2 ⟨rfl, hd⟩
            have HB2 : Aside0 (Below b w w2) := ⟨HB.out.trans (hd.below.mono (by omega))⟩
            clear hd
            go_wp2
            go_ret
            rw [HS2.out, HBB.out]
            exact ⟨rfl, HB2.out⟩
        · obtain rfl : 0 = esc := by
            have h1 : ¬ esc < 0 := he
            have h2 : ¬ 0 < esc := he0
            omega
          have hok : mayOk k 0 x = decide (x = 0) := by unfold mayOk; rw [if_neg he, if_neg he0]
          clear he he0
          by_cases hx0 : x = 0
          · have HS2 := Aside0.mk (HS.out (by rw [hok]; exact decide_eq_true hx0))
            subst hx0
            clear hok
            go_wp2
            go_roundw
            case rel => exact ⟨i + 1, v, bs, by omega, by go_num, by omega, HS2, HE, HB⟩
            case measure => simp [intOf]; omega
          · have HS2 := Aside0.mk (HBAD.out (by rw [hok, decide_eq_false hx0]; decide))
            have hb0 : (x == 0) = false := beq_eq_false_iff_ne.mpr hx0
            have hb1 : (x != 0) = true := bne_iff_ne.mpr hx0
            clear hok hx0
            go_wp2
            go_ret
            rw [HS2.out, HBB.out]
            exact ⟨rfl, HB.out⟩
    · obtain rfl : i = l.length := by omega
      rw [List.take_length] at HM
      go_wp2
      go_ret
      rw [HM.out, HBB.out]
      exact ⟨rfl, HB.out⟩
end Go.Proofs.Ytfhekkoibmlmpaa.Hand

/- Plain words of layer 8: which recipes may be; the printed functions' answers. -/
namespace Go.Proofs.Ytfhekkoibmlmpaa.Hand
open Go.RowKit Go.Proofs.Ytfhekkoibmlmpaa.Q Go.Proofs.YtfhekkoibmlmpaaW.PrintWords Go.Proofs.YtfhekkoibmlmpaaW.PrintLast Go.Proofs.YtfhekkoibmlmpaaW.PrintMore
set_option linter.unusedVariables false
set_option linter.unusedSimpArgs false

def shapeP (m o block order : Int) : Prop := (m = 0 ∨ m = 1) ∧ 0 ≤ o ∧ o ≤ 15 ∧ 1 ≤ block ∧ block ≤ 65535 ∧ 0 ≤ order ∧ order ≤ 32 ∧ block % 2 ^ o.toNat = 0 ∧ order ≤ block / 2 ^ o.toNat
instance (m o block order : Int) : Decidable (shapeP m o block order) := by unfold shapeP; infer_instance
theorem w64h (x : Int) (h : -9223372036854775808 ≤ x) (h2 : x ≤ 9223372036854775807) : wrap64 x = x := by unfold wrap64; omega
theorem dec_no {P : Prop} [Decidable P] (h : ¬ P) : some false = some (decide P) := by rw [decide_eq_false h]
theorem andNot_one (m : Int) (h0 : -9223372036854775808 ≤ m) (h1 : m ≤ 9223372036854775807) : Go.bits .andNot .i64 m 1 = 0 ↔ (m = 0 ∨ m = 1) := by
  have e : Go.bits .andNot .i64 m 1 = IntKind.i64.wrap ((BitVec.ofInt 64 m &&& ~~~ BitVec.ofInt 64 1).toNat : Int) := rfl
  constructor
  · intro h
    rw [e] at h
    have hz : (BitVec.ofInt 64 m &&& ~~~ BitVec.ofInt 64 1).toNat = 0 := by
      have hlt := (BitVec.ofInt 64 m &&& ~~~ BitVec.ofInt 64 1).isLt
      rw [IntKind.wrap_i64] at h
      omega
    have hb : BitVec.ofInt 64 m &&& ~~~ BitVec.ofInt 64 1 = 0#64 := BitVec.eq_of_toNat_eq (by simpa using hz)
    have hx : BitVec.ofInt 64 m = BitVec.ofInt 64 m &&& BitVec.ofInt 64 1 := by
      have : BitVec.ofInt 64 m = (BitVec.ofInt 64 m &&& ~~~ BitVec.ofInt 64 1) ||| (BitVec.ofInt 64 m &&& BitVec.ofInt 64 1) := by
        ext i hi
        simp only [BitVec.getElem_or, BitVec.getElem_and, BitVec.getElem_not]
        cases (BitVec.ofInt 64 m)[i] <;> cases (BitVec.ofInt 64 1)[i] <;> rfl
      rw [hb] at this
      rw [this]
      ext i hi
      simp
    have h2 := congrArg BitVec.toNat hx
    rw [BitVec.toNat_and, show (BitVec.ofInt 64 1).toNat = 1 by decide, Nat.and_one_is_mod, BitVec.toNat_ofInt] at h2
    omega
  · rintro (rfl | rfl)
    · decide
    · decide
theorem shl_lo (x : Int) (o : Nat) (ho : o ≤ 15) (h0 : 0 ≤ x) (h1 : x ≤ 65535) : shl .i64 x (o : Int) = x * 2 ^ o := by
  have h2 : (2 : Int) ^ o ≤ 32768 := by
    have h := Nat.pow_le_pow_right (n := 2) (by decide) ho
    have e : (2 : Int) ^ o = ((2 ^ o : Nat) : Int) := by simp
    have e2 : (2 : Nat) ^ 15 = 32768 := by decide
    omega
  have h3 : (0 : Int) < 2 ^ o := Int.pow_pos (by decide)
  have h4 : 0 ≤ x * 2 ^ o := Int.mul_nonneg h0 (Int.le_of_lt h3)
  have h5 : x * 2 ^ o ≤ 65535 * 32768 := Int.mul_le_mul h1 h2 (Int.le_of_lt h3) (by decide)
  have e : shl .i64 x (o : Int) = IntKind.i64.wrap (x * 2 ^ min ((o : Int)).toNat 64) := rfl
  rw [e, Int.toNat_natCast, Nat.min_eq_left (by omega), IntKind.wrap_i64]
  omega
theorem shr_lo (x : Int) (o : Nat) (ho : o ≤ 64) : shr .i64 x (o : Int) = x / 2 ^ o := by
  have e : shr .i64 x (o : Int) = x / 2 ^ min ((o : Int)).toNat 64 := rfl
  rw [e, Int.toNat_natCast, Nat.min_eq_left ho]
theorem shape_eq (m o : Int) (ps es : List Int) (block order : Int) (h0 : -9223372036854775808 ≤ m) (h1 : m ≤ 9223372036854775807) : rice_shape.f m o ps es block order = some (decide (shapeP m o block order)) := by
  unfold rice_shape.f
  by_cases hm : m = 0 ∨ m = 1
  · rw [if_pos ((andNot_one m h0 h1).2 hm)]
    by_cases c1 : o < 0
    · rw [if_pos c1]
      exact dec_no (fun h => by obtain ⟨h1, h2, h3, h4, h5, h6, h7, h8, h9⟩ := h; clear h8 h9; omega)
    rw [if_neg c1]
    by_cases c2 : o > 15
    · rw [if_pos c2]
      exact dec_no (fun h => by obtain ⟨h1, h2, h3, h4, h5, h6, h7, h8, h9⟩ := h; clear h8 h9; omega)
    rw [if_neg c2]
    by_cases c3 : block < 1
    · rw [if_pos c3]
      exact dec_no (fun h => by obtain ⟨h1, h2, h3, h4, h5, h6, h7, h8, h9⟩ := h; clear h8 h9; omega)
    rw [if_neg c3]
    by_cases c4 : block > 65535
    · rw [if_pos c4]
      exact dec_no (fun h => by obtain ⟨h1, h2, h3, h4, h5, h6, h7, h8, h9⟩ := h; clear h8 h9; omega)
    rw [if_neg c4]
    by_cases c5 : order < 0
    · rw [if_pos c5]
      exact dec_no (fun h => by obtain ⟨h1, h2, h3, h4, h5, h6, h7, h8, h9⟩ := h; clear h8 h9; omega)
    rw [if_neg c5]
    by_cases c6 : order > 32
    · rw [if_pos c6]
      exact dec_no (fun h => by obtain ⟨h1, h2, h3, h4, h5, h6, h7, h8, h9⟩ := h; clear h8 h9; omega)
    rw [if_neg c6, if_pos (by omega)]
    obtain ⟨n, rfl⟩ := Int.eq_ofNat_of_zero_le (show 0 ≤ o by omega)
    have hp : (0 : Int) < 2 ^ n := Int.pow_pos (by decide)
    have hd0 : 0 ≤ block / 2 ^ n := Int.ediv_nonneg (by omega) (by omega)
    have hd1 : block / 2 ^ n ≤ 65535 := Int.le_trans (Int.ediv_le_self _ (by omega)) (by omega)
    rw [shr_lo _ _ (by omega), shl_lo _ _ (by omega) hd0 hd1]
    have hdm := Int.mul_ediv_add_emod block (2 ^ n)
    by_cases c7 : block % 2 ^ n = 0
    · rw [if_pos (by rw [Int.mul_comm]; omega)]
      congr 1
      exact decide_eq_decide.2 ⟨fun h => ⟨hm, by omega, by omega, by omega, by omega, by omega, by omega, by rw [Int.toNat_natCast]; exact c7, by rw [Int.toNat_natCast]; exact h⟩, fun h => by have := h.2.2.2.2.2.2.2.2; rw [Int.toNat_natCast] at this; exact this⟩
    · rw [if_neg (by rw [Int.mul_comm]; omega)]
      exact dec_no (fun h => c7 (by have := h.2.2.2.2.2.2.2.1; rw [Int.toNat_natCast] at this; exact this))
  · rw [if_neg (fun h => hm ((andNot_one m h0 h1).1 h))]
    exact dec_no (fun h => hm h.1)
theorem xshape_eq (m o : Int) (ps es : List Int) (block order : Int) : lacquerref08_shape.f m o ps es block order = some (decide (shapeP m o block order)) := by
  unfold lacquerref08_shape.f
  by_cases a1 : m < 0
  · rw [if_pos a1]
    exact dec_no (fun h => by obtain ⟨h1, h2, h3, h4, h5, h6, h7, h8, h9⟩ := h; clear h8 h9; omega)
  rw [if_neg a1]
  by_cases a2 : m > 1
  · rw [if_pos a2]
    exact dec_no (fun h => by obtain ⟨h1, h2, h3, h4, h5, h6, h7, h8, h9⟩ := h; clear h8 h9; omega)
  rw [if_neg a2]
  by_cases c1 : o < 0
  · rw [if_pos c1]
    exact dec_no (fun h => by obtain ⟨h1, h2, h3, h4, h5, h6, h7, h8, h9⟩ := h; clear h8 h9; omega)
  rw [if_neg c1]
  by_cases c2 : o > 15
  · rw [if_pos c2]
    exact dec_no (fun h => by obtain ⟨h1, h2, h3, h4, h5, h6, h7, h8, h9⟩ := h; clear h8 h9; omega)
  rw [if_neg c2]
  by_cases c3 : block < 1
  · rw [if_pos c3]
    exact dec_no (fun h => by obtain ⟨h1, h2, h3, h4, h5, h6, h7, h8, h9⟩ := h; clear h8 h9; omega)
  rw [if_neg c3]
  by_cases c4 : block > 65535
  · rw [if_pos c4]
    exact dec_no (fun h => by obtain ⟨h1, h2, h3, h4, h5, h6, h7, h8, h9⟩ := h; clear h8 h9; omega)
  rw [if_neg c4]
  by_cases c5 : order < 0
  · rw [if_pos c5]
    exact dec_no (fun h => by obtain ⟨h1, h2, h3, h4, h5, h6, h7, h8, h9⟩ := h; clear h8 h9; omega)
  rw [if_neg c5]
  by_cases c6 : order > 32
  · rw [if_pos c6]
    exact dec_no (fun h => by obtain ⟨h1, h2, h3, h4, h5, h6, h7, h8, h9⟩ := h; clear h8 h9; omega)
  rw [if_neg c6]
  obtain ⟨n, rfl⟩ := Int.eq_ofNat_of_zero_le (show 0 ≤ o by omega)
  have hw : IntKind.u64.wrap (n : Int) = (n : Int) := by rw [u64_wrap]; omega
  have hp : (0 : Int) < 2 ^ n := Int.pow_pos (by decide)
  have hd0 : 0 ≤ block / 2 ^ n := Int.ediv_nonneg (by omega) (by omega)
  have hd1 : block / 2 ^ n ≤ 65535 := Int.le_trans (Int.ediv_le_self _ (by omega)) (by omega)
  rw [hw, if_pos (by omega), shl_lo 1 n (by omega) (by omega) (by omega), Int.one_mul, if_neg (by omega), Int.tmod_eq_emod_of_nonneg (by omega), Int.tdiv_eq_ediv_of_nonneg (by omega), w64h _ (by omega) (by omega)]
  by_cases c7 : block % 2 ^ n = 0
  · rw [if_pos c7]
    congr 1
    exact decide_eq_decide.2 ⟨fun h => ⟨by omega, by omega, by omega, by omega, by omega, by omega, by omega, by rw [Int.toNat_natCast]; exact c7, by rw [Int.toNat_natCast]; exact h⟩, fun h => by have := h.2.2.2.2.2.2.2.2; rw [Int.toNat_natCast] at this; exact this⟩
  · rw [if_neg c7]
    exact dec_no (fun h => c7 (by have := h.2.2.2.2.2.2.2.1; rw [Int.toNat_natCast] at this; exact this))
/-- A partition's parameter and escape may be. -/
def okPE (m k e : Int) : Prop := 0 ≤ k ∧ k ≤ (if m = 1 then 30 else 14) ∧ -1 ≤ e ∧ e ≤ 31 ∧ (0 ≤ e → k = 0)
instance (m k e : Int) : Decidable (okPE m k e) := by unfold okPE; infer_instance
def checkP (m o : Int) (ps es : List Int) (block order : Int) : Prop := shapeP m o block order ∧ ps.length = 2 ^ o.toNat ∧ es.length = 2 ^ o.toNat ∧ ∀ i : Nat, i < ps.length → okPE m (rd ps (i : Int)) (rd es (i : Int))
instance (m o : Int) (ps es : List Int) (block order : Int) : Decidable (checkP m o ps es block order) := by unfold checkP; infer_instance
def restE (m : Int) (ps es : List Int) : Nat → Nat → Int
  | 0, _ => 0
  | d + 1, i => if okPE m (rd ps (i : Int)) (rd es (i : Int)) then restE m ps es d (i + 1) else 60
def allPE (m : Int) (ps es : List Int) (d i : Nat) : Prop := ∀ j : Nat, j < d → okPE m (rd ps ((i + j : Nat) : Int)) (rd es ((i + j : Nat) : Int))
instance (m : Int) (ps es : List Int) (d i : Nat) : Decidable (allPE m ps es d i) := by unfold allPE; infer_instance
theorem restE_eq (m : Int) (ps es : List Int) : ∀ d i, restE m ps es d i = if allPE m ps es d i then 0 else 60
  | 0, i => by rw [if_pos (show allPE m ps es 0 i from fun j h1 => by omega)]; rfl
  | d + 1, i => by
    unfold restE
    by_cases h : okPE m (rd ps (i : Int)) (rd es (i : Int))
    · rw [if_pos h, restE_eq m ps es d (i + 1)]
      by_cases h2 : allPE m ps es d (i + 1)
      · rw [if_pos h2, if_pos (show allPE m ps es (d + 1) i from fun j h3 => by
          by_cases e : j = 0
          · subst e; exact h
          · have := h2 (j - 1) (by omega)
            rw [show i + 1 + (j - 1) = i + j by omega] at this
            exact this)]
      · rw [if_neg h2, if_neg (fun h3 => h2 (fun j h4 => by
          have := h3 (j + 1) (by omega)
          rw [show i + (j + 1) = i + 1 + j by omega] at this
          exact this))]
    · rw [if_neg h, if_neg (fun h3 => h (h3 0 (by omega)))]
theorem check_l0 (m o : Int) (ps es : List Int) (hl : es.length = ps.length) (hb : ps.length ≤ 65536) : ∀ (d i : Nat), i + d = ps.length →
    Ev (fun k => rice_Check.l0 k (if m = 1 then 30 else 14) ps (ps.length : Nat) (i : Nat) m o ps es) (restE m ps es d i)
  | 0, i, hi => by
    refine Ev.step (f := fun _ => some 0) (fun k => ?_) (Ev.now _)
    simp only [rice_Check.l0]
    rw [if_neg (by omega)]
  | d + 1, i, hi => by
    have ih := check_l0 m o ps es hl hb d (i + 1) (by omega)
    unfold restE
    generalize hp : rd ps (i : Nat) = p
    generalize he : rd es (i : Nat) = e
    have hno : ¬ okPE m p e → Ev (fun k => some (60 : Int)) (if okPE m p e then restE m ps es d (i + 1) else 60) := fun h => by rw [if_neg h]; exact Ev.now _
    have hyes : okPE m p e → Ev (fun k => rice_Check.l0 k (if m = 1 then 30 else 14) ps (ps.length : Nat) ((i : Int) + 1) m o ps es) (if okPE m p e then restE m ps es d (i + 1) else 60) := fun h => by rw [if_pos h]; exact ih
    have key : ∀ k, rice_Check.l0 (k + 1) (if m = 1 then 30 else 14) ps (ps.length : Nat) (i : Nat) m o ps es = if p < 0 then some 60 else if p > (if m = 1 then 30 else 14) then some 60 else if e < -1 then some 60 else if e > 31 then some 60 else if e ≥ 0 then (if p = 0 then rice_Check.l0 k (if m = 1 then 30 else 14) ps (ps.length : Nat) ((i : Int) + 1) m o ps es else some 60) else rice_Check.l0 k (if m = 1 then 30 else 14) ps (ps.length : Nat) ((i : Int) + 1) m o ps es := fun k => by
      conv => lhs; simp only [rice_Check.l0]
      rw [if_pos (by omega), if_pos (by omega), if_pos (by omega), if_pos (by omega), hp, he, w64h _ (by omega) (by omega)]
    unfold okPE at hno hyes ⊢
    by_cases c1 : p < 0
    · exact Ev.step (fun k => by rw [key k, if_pos c1]) (hno (by omega))
    by_cases c2 : p > (if m = 1 then 30 else 14)
    · exact Ev.step (fun k => by rw [key k, if_neg c1, if_pos c2]) (hno (by omega))
    by_cases c3 : e < -1
    · exact Ev.step (fun k => by rw [key k, if_neg c1, if_neg c2, if_pos c3]) (hno (by omega))
    by_cases c4 : e > 31
    · exact Ev.step (fun k => by rw [key k, if_neg c1, if_neg c2, if_neg c3, if_pos c4]) (hno (by omega))
    by_cases c5 : e ≥ 0
    · by_cases c6 : p = 0
      · exact Ev.step (fun k => by rw [key k, if_neg c1, if_neg c2, if_neg c3, if_neg c4, if_pos c5, if_pos c6]) (hyes (by omega))
      · exact Ev.step (fun k => by rw [key k, if_neg c1, if_neg c2, if_neg c3, if_neg c4, if_pos c5, if_neg c6]) (hno (by omega))
    · exact Ev.step (fun k => by rw [key k, if_neg c1, if_neg c2, if_neg c3, if_neg c4, if_neg c5]) (hyes (by omega))
theorem check_ev (m o : Int) (ps es : List Int) (block order : Int) (h0 : -9223372036854775808 ≤ m) (h1 : m ≤ 9223372036854775807) : Ev (fun k => rice_Check.f k m o ps es block order) (if checkP m o ps es block order then 0 else 60) := by
  unfold rice_Check.f
  rw [shape_eq m o ps es block order h0 h1]
  have hno : Ev (fun k => rice_Check.j0 k true m o ps es) 60 := Ev.step (f := fun _ => some 60) (fun k => by simp only [rice_Check.j0]; rw [if_pos trivial]) (Ev.now _)
  by_cases hs : shapeP m o block order
  · have ho : 0 ≤ o := hs.2.1
    have ho2 : o ≤ 15 := hs.2.2.1
    obtain ⟨n, rfl⟩ := Int.eq_ofNat_of_zero_le ho
    have hsl : shl .i64 1 (n : Int) = ((2 ^ n : Nat) : Int) := by rw [shl_lo 1 n (by omega) (by omega) (by omega), Int.one_mul]; simp
    by_cases hp : ps.length = 2 ^ n
    · by_cases he : es.length = 2 ^ n
      · have hb : ps.length ≤ 65536 := by
          have : 2 ^ n ≤ 2 ^ 15 := Nat.pow_le_pow_right (by decide) (by omega)
          omega
        have hl := check_l0 m n ps es (by omega) hb ps.length 0 (by omega)
        rw [restE_eq] at hl
        have hval : (if checkP m n ps es block order then (0 : Int) else 60) = (if allPE m ps es ps.length 0 then 0 else 60) := by
          by_cases hall : allPE m ps es ps.length 0
          · rw [if_pos hall, if_pos ⟨hs, by simpa using hp, by simpa using he, fun i hi => by
              have := hall i hi
              rw [Nat.zero_add] at this
              exact this⟩]
          · rw [if_neg hall, if_neg (fun h => hall (fun j hj => by
              rw [Nat.zero_add]
              exact h.2.2.2 j hj))]
        rw [hval]
        refine Ev.congr (f := fun k => rice_Check.j0 k false m n ps es) (fun k => ?_) (Ev.step (f := fun k => rice_Check.j1 k (if m = 1 then 30 else 14) m n ps es) (fun k => ?_) (Ev.step (fun k => ?_) hl))
        · rw [Option.bind_some, if_pos (decide_eq_true hs), if_pos ho, hsl, if_pos (by omega), bne_eq_false_iff_eq.mpr (by omega)]
        · simp only [rice_Check.j0]
          rw [if_neg (by decide)]
          split <;> rfl
        · simp only [rice_Check.j1]
          rfl
      · rw [if_neg (fun h => he (by have := h.2.2.1; simpa using this))]
        refine Ev.congr (fun k => ?_) hno
        rw [Option.bind_some, if_pos (decide_eq_true hs), if_pos ho, hsl, if_pos (by omega), bne_iff_ne.mpr (by omega)]
    · rw [if_neg (fun h => hp (by have := h.2.1; simpa using this))]
      refine Ev.congr (fun k => ?_) hno
      rw [Option.bind_some, if_pos (decide_eq_true hs), if_pos ho, hsl, if_neg (by omega)]
  · rw [if_neg (fun h => hs h.1)]
    refine Ev.congr (fun k => ?_) hno
    rw [Option.bind_some, if_neg (by simpa using hs)]
end Go.Proofs.Ytfhekkoibmlmpaa.Hand

/- Contracts of layer 8, proved by hand: lists that a writer leaves; what Encode writes. -/
namespace Go.Proofs.Ytfhekkoibmlmpaa.Hand
open Go.RowKit Go.Proofs.Ytfhekkoibmlmpaa.Q Go.Proofs.YtfhekkoibmlmpaaW.PrintWords Go.Proofs.YtfhekkoibmlmpaaW.PrintLast Go.Proofs.YtfhekkoibmlmpaaW.PrintMore
set_option linter.unusedVariables false
set_option linter.unusedSimpArgs false

theorem blk_add (a : Addr) (i : Nat) : (a.add i).block = a.block := by unfold Addr.add; split <;> rfl
/-- A list that is read, apart from a writer in g whose row is v. -/
def ListAt (w : World) (g : Nat) (v : Value) (A : Option Addr) (xs : List Int) : Prop :=
  Kd.C (Kd.int .i64) w A xs.length xs ∧ (xs ≠ [] → ∀ ad, A = some ad → ad.block ≠ g ∧ v.ownBlock ≠ some ad.block)
theorem C_block {w w' : World} {A : Option Addr} {xs : List Int} (h : Kd.C (Kd.int .i64) w A xs.length xs) (hb : xs ≠ [] → ∀ ad, A = some ad → ad.block < w.heap.size → w'.heap[ad.block]? = w.heap[ad.block]?) : Kd.C (Kd.int .i64) w' A xs.length xs := by
  obtain ⟨h1, h2, h3⟩ := h
  refine ⟨h1, h2, fun hn => ?_⟩
  obtain ⟨ad, hA, hc⟩ := h3 hn
  refine ⟨ad, hA, fun j p hp => ?_⟩
  obtain ⟨c, hl, hk, hcell⟩ := hc j p hp
  refine ⟨c, hl, hk, fun i u hu => ?_⟩
  have hx := hcell i u hu
  have hne : xs ≠ [] := by
    intro e
    subst e
    simp at hn
  have hlt : ad.block < w.heap.size := by
    rcases Nat.lt_or_ge ad.block w.heap.size with h' | h'
    · exact h'
    · simp [World.cell?, blk_add, Array.getElem?_eq_none h'] at hx
  have hbl := hb hne ad hA hlt
  rw [← hx]
  unfold World.cell?
  rw [blk_add, hbl]
theorem ListAt.below {w w' : World} {g : Nat} {v : Value} {A : Option Addr} {xs : List Int} (h : ListAt w g v A xs) (hb : Below w.heap.size w w') : ListAt w' g v A xs := ⟨Kd.C_below h.1 hb, h.2⟩
theorem ListAt.moved {w w' : World} {B g : Nat} {v v' : Value} {A : Option Addr} {xs : List Int} (h : ListAt w g v A xs) (hm : Moved B g w v w' v') : ListAt w' g v' A xs := by
  refine ⟨C_block h.1 (fun hne ad hA hlt => ?_), fun hne ad hA => ⟨(h.2 hne ad hA).1, fun e => ?_⟩⟩
  · have := h.2 hne ad hA
    exact hm.kept.2 _ hlt (fun hk => hk.elim this.1 this.2)
  · have := h.2 hne ad hA
    rcases hm.own _ e with h1 | h1
    · exact this.2 h1
    · obtain ⟨hl, _, h3⟩ := h.1
      have hn : 0 < xs.length := List.length_pos_iff.2 hne
      obtain ⟨ad2, hA2, hc⟩ := h3 hn
      rw [hA] at hA2
      injection hA2 with hA2
      subst hA2
      obtain ⟨c, hcl, hk, hcell⟩ := hc 0 _ (List.getElem?_eq_getElem hn)
      have hk2 : c = [.int .i64 xs[0]] := hk
      have hx := hcell 0 _ (by rw [hk2]; rfl)
      simp [World.cell?, blk_add, Array.getElem?_eq_none h1] at hx
/-- A list that is elder than the writer. -/
theorem ListAt.elder {w w' : World} {g : Nat} {v : Value} {A : Option Addr} {xs : List Int} (h : Kd.C (Kd.int .i64) w A xs.length xs) (hb : Below w.heap.size w w') (hg : w.heap.size ≤ g) (hv : ∀ k, v.ownBlock = some k → w.heap.size ≤ k) : ListAt w' g v A xs := by
  refine ⟨Kd.C_below h hb, fun hne ad hA => ?_⟩
  have hn : 0 < xs.length := List.length_pos_iff.2 hne
  obtain ⟨hl, _, h3⟩ := h
  obtain ⟨ad2, hA2, hc⟩ := h3 hn
  rw [hA] at hA2
  injection hA2 with hA2
  subst hA2
  obtain ⟨c, hcl, hk, hcell⟩ := hc 0 _ (List.getElem?_eq_getElem hn)
  have hk2 : c = [.int .i64 xs[0]] := hk
  have hx := hcell 0 _ (by rw [hk2]; rfl)
  have hlt : ad.block < w.heap.size := by
    rcases Nat.lt_or_ge ad.block w.heap.size with h' | h'
    · exact h'
    · simp [World.cell?, blk_add, Array.getElem?_eq_none h'] at hx
  exact ⟨by omega, fun e => by have := hv _ e; omega⟩
theorem ListAt.reads {w : World} {g : Nat} {v : Value} {A : Option Addr} {xs : List Int} (h : ListAt w g v A xs) : ReadsInt w .i64 A xs.length xs := Kd.reads_of_C (d := (0 : Int)) (enc := Value.int .i64) h.1

def partL (l : List Int) (n order i : Nat) : List Int := (l.take ((i + 1) * n - order)).drop (i * n - order)
def headX (wide : Nat) (k e : Int) : List Bool := if e < 0 then nbits k.toNat wide else nbits (2 ^ wide - 1) wide ++ nbits e.toNat 5
def codeX (k e x : Int) : List Bool := if e < 0 then riceB x k.toNat else if 0 < e then nbits (wordN x) e.toNat else []
def bodyX (k e : Int) (l : List Int) : List Bool := l.flatMap (codeX k e)
def partX (wide n order : Nat) (ps es l : List Int) (i : Nat) : List Bool := headX wide (rd ps (i : Int)) (rd es (i : Int)) ++ bodyX (rd ps (i : Int)) (rd es (i : Int)) (partL l n order i)
def partsX (wide n order : Nat) (ps es l : List Int) (cnt : Nat) : List Bool := (List.range cnt).flatMap (partX wide n order ps es l)
def allMay (n order : Nat) (ps es l : List Int) (cnt : Nat) : Bool := (List.range cnt).all fun i => mayF (partL l n order i) (rd ps (i : Int)) (rd es (i : Int))
def bitsE (m o : Int) (ps es : List Int) (block order : Int) (l : List Int) : List Bool := nbits m.toNat 2 ++ (nbits o.toNat 4 ++ partsX (4 + m.toNat) (block / 2 ^ o.toNat).toNat order.toNat ps es l ps.length)
def canE (m o : Int) (ps es : List Int) (block order : Int) (l : List Int) : Prop := checkP m o ps es block order ∧ (l.length : Int) = block - order ∧ allMay (block / 2 ^ o.toNat).toNat order.toNat ps es l ps.length = true
instance (m o : Int) (ps es : List Int) (block order : Int) (l : List Int) : Decidable (canE m o ps es block order l) := by unfold canE; infer_instance
theorem bodyX_snoc (k e : Int) (l : List Int) (j : Nat) (h : j < l.length) : bodyX k e (l.take (j + 1)) = bodyX k e (l.take j) ++ codeX k e (rd l (j : Int)) := by
  have ht : l.take (j + 1) = l.take j ++ [rd l (j : Int)] := by
    rw [List.take_succ_eq_append_getElem h]
    simp [rd, h]
  unfold bodyX
  rw [ht, List.flatMap_append]
  simp
theorem partsX_snoc (wide n order : Nat) (ps es l : List Int) (i : Nat) : partsX wide n order ps es l (i + 1) = partsX wide n order ps es l i ++ partX wide n order ps es l i := by
  unfold partsX
  rw [List.range_succ, List.flatMap_append]
  simp
theorem codeX_length (k e x : Int) (h : mayOk k e x = true) (k0 : 0 ≤ k) (k1 : k ≤ 30) (e1 : e ≤ 31) : (codeX k e x).length ≤ 16777300 := by
  unfold codeX
  unfold mayOk at h
  by_cases he : e < 0
  · rw [if_pos he] at h ⊢
    have := of_decide_eq_true h
    unfold riceB
    rw [List.length_append, List.length_replicate, List.length_cons, nbits_length]
    omega
  · rw [if_neg he]
    by_cases he0 : 0 < e
    · rw [if_pos he0, nbits_length]
      omega
    · rw [if_neg he0]
      simp
theorem bodyX_length (k e : Int) (l : List Int) (h : mayF l k e = true) (k0 : 0 ≤ k) (k1 : k ≤ 30) (e1 : e ≤ 31) : (bodyX k e l).length ≤ 16777300 * l.length := by
  induction l with
  | nil => simp [bodyX]
  | cons x r ih =>
    have h2 : mayOk k e x = true ∧ mayF r k e = true := by simpa [mayF] using h
    have h3 := codeX_length k e x h2.1 k0 k1 e1
    have h4 := ih h2.2
    have e : bodyX k e (x :: r) = codeX k e x ++ bodyX k e r := by simp [bodyX]
    rw [e, List.length_append, List.length_cons]
    omega
theorem mayF_take (l : List Int) (k e : Int) (j : Nat) (h : mayF l k e = true) : mayF (l.take j) k e = true := by
  unfold mayF at h ⊢
  rw [List.all_eq_true] at h ⊢
  exact fun x hx => h x (List.mem_of_mem_take hx)
theorem headX_length (wide : Nat) (k e : Int) (hw : wide ≤ 5) : (headX wide k e).length ≤ 10 := by
  unfold headX
  split
  · rw [nbits_length]; omega
  · rw [List.length_append, nbits_length, nbits_length]; omega
theorem partL_length (l : List Int) (n order i : Nat) : (partL l n order i).length ≤ n := by
  unfold partL
  rw [List.length_drop, List.length_take]
  have : (i + 1) * n = i * n + n := Nat.succ_mul i n
  omega
theorem allMay_at {n order : Nat} {ps es l : List Int} {cnt : Nat} (h : allMay n order ps es l cnt = true) (i : Nat) (hi : i < cnt) : mayF (partL l n order i) (rd ps (i : Int)) (rd es (i : Int)) = true :=
  (List.all_eq_true.1 h) i (List.mem_range.2 hi)
theorem partsX_length (wide n order : Nat) (ps es l : List Int) (cnt m : Nat) (hw : wide ≤ 5) (h : allMay n order ps es l cnt = true) (hok : ∀ i, i < cnt → 0 ≤ rd ps (i : Int) ∧ rd ps (i : Int) ≤ 30 ∧ rd es (i : Int) ≤ 31) (hm : m ≤ cnt) : (partsX wide n order ps es l m).length ≤ 10 * m + 16777300 * (m * n) := by
  induction m with
  | zero => simp [partsX]
  | succ m ih =>
    have ih2 := ih (by omega)
    obtain ⟨k0, k1, e1⟩ := hok m (by omega)
    have hb := bodyX_length _ _ _ (allMay_at h m (by omega)) k0 k1 e1
    have hl := partL_length l n order m
    have hh := headX_length wide (rd ps (m : Int)) (rd es (m : Int)) hw
    have hmul : (m + 1) * n = m * n + n := Nat.succ_mul m n
    rw [partsX_snoc, List.length_append]
    unfold partX
    rw [List.length_append]
    omega
end Go.Proofs.Ytfhekkoibmlmpaa.Hand

/- Contracts of layer 8, proved by hand: Encode, its beginnings. -/
namespace Go.Proofs.Ytfhekkoibmlmpaa.Hand
open Go.RowKit Go.Proofs.Ytfhekkoibmlmpaa.Q Go.Proofs.YtfhekkoibmlmpaaW.PrintWords Go.Proofs.YtfhekkoibmlmpaaW.PrintLast Go.Proofs.YtfhekkoibmlmpaaW.PrintMore
set_option linter.unusedVariables false
set_option linter.unusedSimpArgs false

/-- A recipe's cells. -/
def rcCells (m o : Int) (AP AE : Option Addr) (nP cP nE cE : Nat) : Array Value := #[.int .i64 m, .int .i64 o, .slice AP nP cP, .slice AE nE cE]
/-- What Encode's world is: a writer, the recipe's box, three lists. -/
structure EncSt (w : World) (B g g6 : Nat) (cells : Array Value) (AP AE A : Option Addr) (ps es l : List Int) (v0 : Value) (wr : World) (v : Value) (bs : List Bool) : Prop where
  wat : WAt wr B g v bs
  mv : Moved B g w v0 wr v
  box : wr.heap[g6]? = some (.cells cells 24 (0, 0))
  P : ListAt wr g v AP ps
  E : ListAt wr g v AE es
  L : ListAt wr g v A l
section
variable {w : World} {B g g6 : Nat} {cells : Array Value} {AP AE A : Option Addr} {ps es l : List Int} {v0 : Value} {wr w' : World} {v v' : Value} {bs bs' : List Bool}
theorem EncSt.step (h : EncSt w B g g6 cells AP AE A ps es l v0 wr v bs) (hw : WAt w' B g v' bs') (hm : Moved B g wr v w' v') : EncSt w B g g6 cells AP AE A ps es l v0 w' v' bs' := by
  refine ⟨hw, h.mv.trans hm, blk_kept h.box hm.kept (fun hk => ?_), h.P.moved hm, h.E.moved hm, h.L.moved hm⟩
  rcases hk with e | e
  · have h1 := h.wat.1
    rw [← e, h.box] at h1
    injection h1 with h1
    injection h1 with h1 h2
    exact absurd h2 (by decide)
  · exact (Kd.R_ne h.wat.2.1.all h.box (by decide)) e.symm
theorem EncSt.below (h : EncSt w B g g6 cells AP AE A ps es l v0 wr v bs) (hb : Below wr.heap.size wr w') : EncSt w B g g6 cells AP AE A ps es l v0 w' v bs :=
  ⟨h.wat.below hb, h.mv.new hb (by have := h.wat.lt; have := h.wat.2.2; omega), blk_below h.box hb, h.P.below hb, h.E.below hb, h.L.below hb⟩
end
theorem Put_i (u K : Int) (X : List Bool) (hX : nbits u.toNat K.toNat = X) (u0 : 0 ≤ u) (k0 : 0 ≤ K) (k1 : K ≤ 64) (hu : u < 2 ^ K.toNat) (bs : List Bool) (B g : Nat) (v : Value) (w : World) (h : WAt w B g v bs) (hl : bs.length + 64 < 1125899906842624) :
    Calls Try.prog 11 #[.pointer (some ⟨g, 0, none⟩), .int .u64 u, .int .i64 K] w fun e w' => e = .returned (.int .i64 0) ∧ ∃ v', WAt w' B g v' (bs ++ X) ∧ Moved B g w v w' v' := by
  obtain ⟨U, rfl⟩ := Int.eq_ofNat_of_zero_le u0
  obtain ⟨L, rfl⟩ := Int.eq_ofNat_of_zero_le k0
  rw [Int.toNat_natCast, Int.toNat_natCast] at hX
  rw [Int.toNat_natCast] at hu
  have h64 : (2 : Nat) ^ L ≤ 2 ^ 64 := Nat.pow_le_pow_right (by decide) (by omega)
  have e : (2 : Int) ^ L = ((2 ^ L : Nat) : Int) := by simp
  rw [e] at hu
  have e64 : (2 : Nat) ^ 64 = 18446744073709551616 := by decide
  subst hX
  exact Put_yes U L (by omega) (by omega) (by omega) bs B g v w h hl
/-- A partition's list, cut out. -/
theorem cut_part (l : List Int) (A : Option Addr) (c : Nat) (m : Int) (O : Nat) (AP AE : Option Addr) (nP cP nE cE : Nat) (Bk Or i n : Nat) (ho : O ≤ 15) (hb : Bk ≤ 65535) (hord : Or ≤ 32) (hdiv : Bk = 2 ^ O * n) (hn : Or ≤ n) (hi : i < 2 ^ O) (hl : l.length + Or = Bk) (hc : l.length ≤ c)
    (w : World) (hA : Kd.C (Kd.int .i64) w A l.length l) :
    Calls Try.prog 32 #[.slice A l.length c, .agg (rcCells m O AP AE nP cP nE cE), .int .i64 Bk, .int .i64 Or, .int .i64 i] w fun e w' => ∃ A', e = .returned (.slice A' (partL l n Or i).length (partL l n Or i).length) ∧ Kd.C (Kd.int .i64) w' A' (partL l n Or i).length (partL l n Or i) ∧ (∀ ad', A' = some ad' → ∃ ad, A = some ad ∧ ad'.block = ad.block) ∧ Below w.heap.size w w' := by
  have h1 : (i + 1) * n ≤ 2 ^ O * n := Nat.mul_le_mul_right n (by omega)
  have h2 : (i + 1) * n = i * n + n := Nat.succ_mul i n
  have hp : 0 < 2 ^ O := Nat.two_pow_pos O
  have hp2 : 2 ^ O ≤ 2 ^ 15 := Nat.pow_le_pow_right (by decide) ho
  have e : Bk / 2 ^ O = n := by rw [hdiv]; exact Nat.mul_div_cancel_left n hp
  exact cut_any l A c m O AP AE nP cP nE cE Bk Or i n (i * n - Or) ((i + 1) * n - Or) ho hb hord (by omega) e rfl (by omega) (by omega) (by omega) hc w hA
theorem ListAt.cut {w : World} {g : Nat} {v : Value} {A A' : Option Addr} {l : List Int} {n Or i : Nat} (h : ListAt w g v A l) (hC : Kd.C (Kd.int .i64) w A' (partL l n Or i).length (partL l n Or i)) (hA : ∀ ad', A' = some ad' → ∃ ad, A = some ad ∧ ad'.block = ad.block) : ListAt w g v A' (partL l n Or i) := by
  refine ⟨hC, fun hne ad' e => ?_⟩
  obtain ⟨ad, e1, e2⟩ := hA ad' e
  have hl : l ≠ [] := by
    intro e3
    subst e3
    simp [partL] at hne
  rw [e2]
  exact h.2 hl ad e1
set_option maxHeartbeats 8000000 in
set_option maxRecDepth 100000 in
theorem Encode_no (m o : Int) (AP AE A : Option Addr) (cP cE c : Nat) (ps es l : List Int) (block order : Int) (g : Nat) (w : World) (hP : Kd.C (Kd.int .i64) w AP ps.length ps) (hcP : ps.length ≤ cP) (hE : Kd.C (Kd.int .i64) w AE es.length es) (hcE : es.length ≤ cE)
    (m0 : -9223372036854775808 ≤ m) (m1 : m ≤ 9223372036854775807) (h : ¬ checkP m o ps es block order ∨ ((l.length : Int) ≠ block - order ∧ checkP m o ps es block order)) :
    Calls Try.prog 13 #[.pointer (some ⟨g, 0, none⟩), .agg #[.int .i64 m, .int .i64 o, .slice AP ps.length cP, .slice AE es.length cE], .int .i64 block, .int .i64 order, .slice A l.length c] w fun e w' => e = .returned (.int .i64 60) ∧ Below w.heap.size w w' := by
  have hup := Try.underlying28
  obtain ⟨kk, hk⟩ := (check_ev m o ps es block order m0 m1).rounds
  have HK : Aside0 (∀ W, Below w.heap.size w W → Calls Try.prog 18 #[.agg #[.int .i64 m, .int .i64 o, .slice AP ps.length cP, .slice AE es.length cE], .int .i64 block, .int .i64 order] W fun e w' => e = .returned (.int .i64 (if checkP m o ps es block order then 0 else 60)) ∧ Below W.heap.size W w') :=
    ⟨fun W hW => rice_Check.calls kk m o AP cP ps AE cE es block order _ W (Kd.C_below hP hW) hcP (Kd.C_below hE hW) hcE hk⟩
  clear hk hP hE
  rcases h with h | ⟨h, hck⟩
  · rw [if_neg h] at HK
    clear h
    go_enter Try.func13, Try.ntmps13
    go_wp2_with fail
    with_reducible refine (HK.out _ (below_alloc (Below.refl _ _) _)).mono ?_
    rintro e w2 ⟨rfl, hB⟩
    have HB2 := Aside0.mk ((below_alloc (Below.refl _ _) _).trans (hB.mono (by simp)))
    clear hB
    go_wp2
    go_ret
    exact ⟨rfl, HB2.out⟩
  · rw [if_pos hck] at HK
    have hd : block - order = wrap64 (block - order) := by
      obtain ⟨_, _, _, h1, h2, h3, h4, _⟩ := hck.1
      unfold wrap64
      omega
    obtain ⟨_, _, _, b0, b1, o0, o1, _⟩ := hck.1
    have hne : (((l.length : Int)) != block - order) = true := bne_iff_ne.mpr h
    clear h hck hd
    go_enter Try.func13, Try.ntmps13
    go_wp2_with fail
    with_reducible refine (HK.out _ (below_alloc (Below.refl _ _) _)).mono ?_
    rintro e w2 ⟨rfl, hB⟩
    have HB2 := Aside0.mk ((below_alloc (Below.refl _ _) _).trans (hB.mono (by simp)))
    clear hB
    go_wp2
    go_ret
    exact ⟨rfl, HB2.out⟩
end Go.Proofs.Ytfhekkoibmlmpaa.Hand

/- Contracts of layer 8, proved by hand: Encode. -/
namespace Go.Proofs.Ytfhekkoibmlmpaa.Hand
open Go.RowKit Go.Proofs.Ytfhekkoibmlmpaa.Q Go.Proofs.YtfhekkoibmlmpaaW.PrintWords Go.Proofs.YtfhekkoibmlmpaaW.PrintLast Go.Proofs.YtfhekkoibmlmpaaW.PrintMore
set_option linter.unusedVariables false
set_option linter.unusedSimpArgs false

theorem allMay_snoc {n order : Nat} {ps es l : List Int} {i : Nat} (h : allMay n order ps es l i = true) (h2 : mayF (partL l n order i) (rd ps (i : Int)) (rd es (i : Int)) = true) : allMay n order ps es l (i + 1) = true := by
  unfold allMay at h ⊢
  rw [List.range_succ, List.all_append, h]
  simp [h2]
theorem allMay_bad {n order : Nat} {ps es l : List Int} {cnt i : Nat} (hi : i < cnt) (h2 : ¬ mayF (partL l n order i) (rd ps (i : Int)) (rd es (i : Int)) = true) : ¬ allMay n order ps es l cnt = true := fun h => h2 (allMay_at h i hi)
set_option maxHeartbeats 8000000 in
set_option maxRecDepth 100000 in
/-- The first part: can all be written? -/
theorem Encode_may (m : Int) (O n Bk Or : Nat) (AP AE A : Option Addr) (cP cE c : Nat) (ps es l : List Int) (g : Nat) (w : World) (hm : m = 0 ∨ m = 1) (ho : O ≤ 15) (hb : Bk ≤ 65535) (hord : Or ≤ 32) (hdiv : Bk = 2 ^ O * n) (hn : Or ≤ n) (hl : l.length + Or = Bk) (hps : ps.length = 2 ^ O) (hes : es.length = 2 ^ O)
    (hok : ∀ i : Nat, i < ps.length → okPE m (rd ps (i : Int)) (rd es (i : Int))) (hin : ∀ x ∈ l, -9223372036854775808 ≤ x ∧ x ≤ 9223372036854775807) (hcP : ps.length ≤ cP) (hcE : es.length ≤ cE) (hc : l.length ≤ c)
    (hP : Kd.C (Kd.int .i64) w AP ps.length ps) (hE : Kd.C (Kd.int .i64) w AE es.length es) (hA : Kd.C (Kd.int .i64) w A l.length l) (hck : checkP m O ps es Bk Or) (hbad : ¬ allMay n Or ps es l ps.length = true) :
    Calls Try.prog 13 #[.pointer (some ⟨g, 0, none⟩), .agg #[.int .i64 m, .int .i64 O, .slice AP ps.length cP, .slice AE es.length cE], .int .i64 Bk, .int .i64 Or, .slice A l.length c] w fun e w' => e = .returned (.int .i64 60) ∧ Below w.heap.size w w' := by
  have hup := Try.underlying28
  obtain ⟨kk, hk⟩ := (check_ev m O ps es Bk Or (by omega) (by omega)).rounds
  rw [if_pos hck] at hk
  have HK : Aside0 (∀ W, Below w.heap.size w W → Calls Try.prog 18 #[.agg #[.int .i64 m, .int .i64 O, .slice AP ps.length cP, .slice AE es.length cE], .int .i64 Bk, .int .i64 Or] W fun e w' => e = .returned (.int .i64 0) ∧ Below W.heap.size W w') :=
    ⟨fun W hW => rice_Check.calls kk m O AP cP ps AE cE es Bk Or _ W (Kd.C_below hP hW) hcP (Kd.C_below hE hW) hcE hk⟩
  have HRP : Aside0 (ReadsInt w .i64 AP ps.length ps) := ⟨Kd.reads_of_C (d := (0 : Int)) (enc := Value.int .i64) hP⟩
  have HRE : Aside0 (ReadsInt w .i64 AE es.length es) := ⟨Kd.reads_of_C (d := (0 : Int)) (enc := Value.int .i64) hE⟩
  have HOK := Aside0.mk hok
  have HBAD := Aside0.mk hbad
  have hl6 : l.length ≤ 65535 := by omega
  have HMAY : Aside0 (∀ (i : Nat) W A', Kd.C (Kd.int .i64) W A' (partL l n Or i).length (partL l n Or i) → i < ps.length → Calls Try.prog 31 #[.slice A' (partL l n Or i).length (partL l n Or i).length, .int .i64 (rd ps (i : Int)), .int .i64 (rd es (i : Int))] W fun e w' => e = .returned (.bool (mayF (partL l n Or i) (rd ps (i : Int)) (rd es (i : Int)))) ∧ Below W.heap.size W w') := ⟨fun i W A' hC hi => by
    obtain ⟨k0, k1, e0, e1, _⟩ := hok i hi
    have hn6 : n ≤ 65535 := by
      have hp : 0 < 2 ^ O := Nat.two_pow_pos O
      have : 1 * n ≤ 2 ^ O * n := Nat.mul_le_mul_right n hp
      omega
    have hlen := partL_length l n Or i
    exact may_any (partL l n Or i) A' _ _ _ W (Kd.reads_of_C (d := (0 : Int)) (enc := Value.int .i64) hC) (by omega) (fun x hx => hin x (List.mem_of_mem_take (List.mem_of_mem_drop hx))) k0 (by split at k1 <;> omega) e0 e1⟩
  have HCUT : Aside0 (∀ (i : Nat) W, Below w.heap.size w W → i < ps.length → Calls Try.prog 32 #[.slice A l.length c, .agg #[.int .i64 m, .int .i64 O, .slice AP ps.length cP, .slice AE es.length cE], .int .i64 Bk, .int .i64 Or, .int .i64 i] W fun e w' => ∃ A', e = .returned (.slice A' (partL l n Or i).length (partL l n Or i).length) ∧ Kd.C (Kd.int .i64) w' A' (partL l n Or i).length (partL l n Or i) ∧ Below W.heap.size W w') := ⟨fun i W hW hi =>
    (cut_part l A c m O AP AE ps.length cP es.length cE Bk Or i n ho hb hord hdiv hn (by omega) hl hc W (Kd.C_below hA hW)).mono (fun e w' ⟨A', h1, h2, _, h3⟩ => ⟨A', h1, h2, h3⟩)⟩
  have hne : (((l.length : Int)) != (Bk : Int) - (Or : Int)) = false := bne_eq_false_iff_eq.mpr (by omega)
  obtain ⟨wz, hwz⟩ : ∃ wz, wz = w.heap.size := ⟨_, rfl⟩
  have HWZ := Aside0.mk hwz
  have hle1 : ps.length ≤ es.length := by omega
  have HPE := Aside0.mk hps
  have hpl : ps.length ≤ 32768 := by
    have : 2 ^ O ≤ 2 ^ 15 := Nat.pow_le_pow_right (by decide) ho
    omega
  clear hk hP hE hA hck hbad hok hin hdiv hps hes hl hwz hm hn
  go_enter Try.func13, Try.ntmps13
  go_wp2_with fail
  with_reducible refine (HK.out _ (below_alloc (Below.refl _ _) _)).mono ?_
  rintro e w2 ⟨rfl, hB⟩
  have HB2 := Aside0.mk ((below_alloc (Below.refl w.heap.size w) _).trans (hB.mono (by simp)))
  have HX2 : Aside0 (w2.heap[w.heap.size]? = some (.cells #[.int .i64 m, .int .i64 O, .slice AP ps.length cP, .slice AE es.length cE] 24 (0, 0))) := ⟨blk_below (blk_new w _) hB⟩
  clear hB
  rw [← HWZ.out] at HX2 ⊢
  have b2 := blk_cell HX2.out 2
  go_wp2
  go_loopw [38] (fun iv wr => ∃ i : Nat, i ≤ ps.length ∧ iv = .int .i64 i ∧ Aside0 (allMay n Or ps es l i = true) ∧ Aside0 (Below w.heap.size w wr) ∧ Aside0 (wr.heap[wz]? = some (.cells #[.int .i64 m, .int .i64 O, .slice AP ps.length cP, .slice AE es.length cE] 24 (0, 0)))) (fun iv _ => ps.length - (intOf iv).toNat)
  case atStart => exact ⟨0, by omega, rfl, ⟨rfl⟩, HB2, HX2⟩
  case round =>
    clear HB2 HX2 b2
    obtain ⟨i, hi, rfl, HM, HB, HX⟩ := hrel
    by_cases hlt : i < ps.length
    · have i0 : (0 : Int) ≤ (i : Int) := by omega
      have i1 : (i : Int) < (ps.length : Int) := by omega
      have i2 : (i : Int) < (es.length : Int) := by omega
      obtain ⟨adP, rfl, hxP⟩ := (HRP.out.below HB.out).at_ (i : Int) (by omega) i1
      obtain ⟨adE, rfl, hxE⟩ := (HRE.out.below HB.out).at_ (i : Int) (by omega) i2
      rw [Int.toNat_natCast] at hxP hxE
      have HMAYi : Aside0 (∀ W A', Kd.C (Kd.int .i64) W A' (partL l n Or i).length (partL l n Or i) → _) := ⟨fun W A' h => HMAY.out i W A' h hlt⟩
      have HCUTi : Aside0 (∀ W, Below w.heap.size w W → _) := ⟨fun W h => HCUT.out i W h hlt⟩
      have HSN := Aside0.mk (fun h => allMay_snoc (n := n) (order := Or) (ps := ps) (es := es) (l := l) (i := i) HM.out h)
      have HBD := Aside0.mk (fun h => allMay_bad (n := n) (order := Or) (ps := ps) (es := es) (l := l) (cnt := ps.length) (i := i) hlt h)
      have HSK : Aside0 (∀ W, Below w.heap.size w W → Below wr.heap.size wr W → W.cell? ⟨wz, 0, none⟩ = some (.int .i64 m) ∧ W.cell? ⟨wz, 1, none⟩ = some (.int .i64 O) ∧ W.cell? ⟨wz, 2, none⟩ = some (.slice (some adP) ps.length cP) ∧ W.cell? ⟨wz, 3, none⟩ = some (.slice (some adE) es.length cE) ∧ W.cell? (adE.add i) = some (.int .i64 (rd es (i : Int)))) := ⟨fun W h1 h2 => by
        have hb := blk_below HX.out h2
        obtain ⟨ad, e1, e2⟩ := (HRE.out.below h1).at_ (i : Int) (by omega) i2
        injection e1 with e1
        subst e1
        rw [Int.toNat_natCast] at e2
        exact ⟨blk_cell hb 0, blk_cell hb 1, blk_cell hb 2, blk_cell hb 3, e2⟩⟩
      generalize rd ps (i : Int) = kk at hxP HMAYi HSN HBD
      generalize rd es (i : Int) = ee at hxE HMAYi HSN HBD HSK
      generalize (partL l n Or i).length = nn at HMAYi HCUTi
      generalize partL l n Or i = pl at HMAYi HCUTi HSN HBD
      have hw0 : Below w.heap.size w wr.drew := below_drew HB.out
      have hwr : Below wr.heap.size wr wr.drew := below_drew (Below.refl _ _)
      clear HMAY HCUT HM
      have HB9 := HB.out.size
      cases hq : mayF pl kk ee with
      | true =>
        have HSN2 := Aside0.mk (HSN.out hq)
        rw [hq] at HMAYi
        clear hq HSN HBD
        go_wp2
        go_region_held3 (fun W => W.cell? ⟨wz, 0, none⟩ = some (.int .i64 m) ∧ W.cell? ⟨wz, 1, none⟩ = some (.int .i64 O) ∧ W.cell? ⟨wz, 2, none⟩ = some (.slice (some adP) ps.length cP) ∧ W.cell? ⟨wz, 3, none⟩ = some (.slice (some adE) es.length cE) ∧ W.cell? (adE.add i) = some (.int .i64 ee)) (first | exact HSK.out _ hw0 hwr)
          ((first | (go_at_call 32; (with_reducible refine (HCUTi.out _ hw0).mono ?_); rintro e w4 ⟨A4, rfl, hC4, hn4⟩; have hw2 := hw0.trans (hn4.mono hw0.size); have hwr2 := hwr.trans (hn4.mono hwr.size); clear hw0 hwr hn4; have hw0 := hw2; have hwr := hwr2; clear hw2 hwr2) | (go_at_call 31; (with_reducible refine (HMAYi.out _ _ hC4).mono ?_); rintro e w4 ⟨rfl, hn4⟩; have hw2 := hw0.trans (hn4.mono hw0.size); have hwr2 := hwr.trans (hn4.mono hwr.size); clear hw0 hwr hn4; have hw0 := hw2; have hwr := hwr2; clear hw2 hwr2)))
        all_goals
          have HB4 := Aside0.mk hw0
          have HX4 := Aside0.mk (blk_below HX.out hwr)
          clear hw0 hwr
          go_wp2
          go_roundw
          case rel => exact ⟨i + 1, by omega, by go_num, HSN2, HB4, HX4⟩
          case measure => simp [intOf]; omega
      | false =>
        rw [hq] at HMAYi
        clear hq HSN HBD
        go_wp2
        go_region_held3 (fun W => W.cell? ⟨wz, 0, none⟩ = some (.int .i64 m) ∧ W.cell? ⟨wz, 1, none⟩ = some (.int .i64 O) ∧ W.cell? ⟨wz, 2, none⟩ = some (.slice (some adP) ps.length cP) ∧ W.cell? ⟨wz, 3, none⟩ = some (.slice (some adE) es.length cE) ∧ W.cell? (adE.add i) = some (.int .i64 ee)) (first | exact HSK.out _ hw0 hwr)
          ((first | (go_at_call 32; (with_reducible refine (HCUTi.out _ hw0).mono ?_); rintro e w4 ⟨A4, rfl, hC4, hn4⟩; have hw2 := hw0.trans (hn4.mono hw0.size); have hwr2 := hwr.trans (hn4.mono hwr.size); clear hw0 hwr hn4; have hw0 := hw2; have hwr := hwr2; clear hw2 hwr2) | (go_at_call 31; (with_reducible refine (HMAYi.out _ _ hC4).mono ?_); rintro e w4 ⟨rfl, hn4⟩; have hw2 := hw0.trans (hn4.mono hw0.size); have hwr2 := hwr.trans (hn4.mono hwr.size); clear hw0 hwr hn4; have hw0 := hw2; have hwr := hwr2; clear hw2 hwr2)))
        all_goals
          have HB4 := Aside0.mk hw0
          clear hw0 hwr
          go_wp2
          go_ret
          exact ⟨rfl, HB4.out⟩
    · obtain rfl : i = ps.length := by omega
      exact absurd HM.out HBAD.out
end Go.Proofs.Ytfhekkoibmlmpaa.Hand

/- Contracts of layer 8, proved by hand: Encode writes (method 0). -/
namespace Go.Proofs.Ytfhekkoibmlmpaa.Hand
open Go.RowKit Go.Proofs.Ytfhekkoibmlmpaa.Q Go.Proofs.YtfhekkoibmlmpaaW.PrintWords Go.Proofs.YtfhekkoibmlmpaaW.PrintLast Go.Proofs.YtfhekkoibmlmpaaW.PrintMore
set_option linter.unusedVariables false
set_option linter.unusedSimpArgs false

set_option maxHeartbeats 16000000 in
set_option maxRecDepth 100000 in
theorem Encode_yes0 (O n Bk Or : Nat) (AP AE A : Option Addr) (cP cE c : Nat) (ps es l : List Int) (bs : List Bool) (B g : Nat) (v : Value) (w : World) (ho : O ≤ 15) (hb : Bk ≤ 65535) (hord : Or ≤ 32) (hdiv : Bk = 2 ^ O * n) (hn : Or ≤ n) (hl : l.length + Or = Bk) (hps : ps.length = 2 ^ O) (hes : es.length = 2 ^ O)
    (hok : ∀ i : Nat, i < ps.length → okPE 0 (rd ps (i : Int)) (rd es (i : Int))) (hin : ∀ x ∈ l, -9223372036854775808 ≤ x ∧ x ≤ 9223372036854775807) (hcP : ps.length ≤ cP) (hcE : es.length ≤ cE) (hc : l.length ≤ c)
    (hW : WAt w B g v bs) (hP : ListAt w g v AP ps) (hE : ListAt w g v AE es) (hA : ListAt w g v A l) (hck : checkP 0 O ps es Bk Or) (hall : allMay n Or ps es l ps.length = true) (hbs : bs.length + 4398046511104 < 1125899906842624) :
    Calls Try.prog 13 #[.pointer (some ⟨g, 0, none⟩), .agg #[.int .i64 0, .int .i64 O, .slice AP ps.length cP, .slice AE es.length cE], .int .i64 Bk, .int .i64 Or, .slice A l.length c] w fun e w' => e = .returned (.int .i64 0) ∧ ∃ v', WAt w' B g v' (bs ++ (nbits 0 2 ++ (nbits O 4 ++ partsX 4 n Or ps es l ps.length))) ∧ Moved B g w v w' v' := by
  have hup := Try.underlying28
  obtain ⟨kk, hk⟩ := (check_ev 0 O ps es Bk Or (by omega) (by omega)).rounds
  rw [if_pos hck] at hk
  have HK : Aside0 (∀ W, Below w.heap.size w W → Calls Try.prog 18 #[.agg #[.int .i64 0, .int .i64 O, .slice AP ps.length cP, .slice AE es.length cE], .int .i64 Bk, .int .i64 Or] W fun e w' => e = .returned (.int .i64 0) ∧ Below W.heap.size W w') :=
    ⟨fun W hW => rice_Check.calls kk 0 O AP cP ps AE cE es Bk Or _ W (Kd.C_below hP.1 hW) hcP (Kd.C_below hE.1 hW) hcE hk⟩
  have HOK := Aside0.mk hok
  have HALL := Aside0.mk hall
  have HIN := Aside0.mk hin
  have hl6 : l.length ≤ 65535 := by omega
  have hle1 : ps.length ≤ es.length := by omega
  have hpl : ps.length ≤ 32768 := by
    have : 2 ^ O ≤ 2 ^ 15 := Nat.pow_le_pow_right (by decide) ho
    omega
  have hpn : ps.length * n ≤ 65535 := by rw [hps, ← hdiv]; exact hb
  have hn6 : n ≤ 65535 := by
    have hp : 0 < 2 ^ O := Nat.two_pow_pos O
    have : 1 * n ≤ 2 ^ O * n := Nat.mul_le_mul_right n hp
    omega
  have HLEN : Aside0 (∀ i, i ≤ ps.length → (partsX 4 n Or ps es l i).length ≤ 10 * i + 16777300 * (i * n) ∧ i * n ≤ 65535) := ⟨fun i hi => by
    refine ⟨partsX_length 4 n Or ps es l ps.length i (by omega) hall (fun j hj => ?_) hi, Nat.le_trans (Nat.mul_le_mul_right n hi) hpn⟩
    obtain ⟨k0, k1, e0, e1, _⟩ := hok j hj
    exact ⟨k0, by split at k1 <;> omega, e1⟩⟩
  have HMAY : Aside0 (∀ (i : Nat) W A', Kd.C (Kd.int .i64) W A' (partL l n Or i).length (partL l n Or i) → i < ps.length → Calls Try.prog 31 #[.slice A' (partL l n Or i).length (partL l n Or i).length, .int .i64 (rd ps (i : Int)), .int .i64 (rd es (i : Int))] W fun e w' => e = .returned (.bool true) ∧ Below W.heap.size W w') := ⟨fun i W A' hC hi => by
    obtain ⟨k0, k1, e0, e1, _⟩ := hok i hi
    have hn6 : n ≤ 65535 := by
      have hp : 0 < 2 ^ O := Nat.two_pow_pos O
      have : 1 * n ≤ 2 ^ O * n := Nat.mul_le_mul_right n hp
      omega
    have hlen := partL_length l n Or i
    have h := may_any (partL l n Or i) A' (partL l n Or i).length _ _ W (Kd.reads_of_C (d := (0 : Int)) (enc := Value.int .i64) hC) (by omega) (fun x hx => hin x (List.mem_of_mem_take (List.mem_of_mem_drop hx))) k0 (by split at k1 <;> omega) e0 e1
    rw [allMay_at hall i hi] at h
    exact h⟩
  have HCUT : Aside0 (∀ (i : Nat) W, Kd.C (Kd.int .i64) W A l.length l → i < ps.length → Calls Try.prog 32 #[.slice A l.length c, .agg #[.int .i64 0, .int .i64 O, .slice AP ps.length cP, .slice AE es.length cE], .int .i64 Bk, .int .i64 Or, .int .i64 i] W fun e w' => ∃ A', e = .returned (.slice A' (partL l n Or i).length (partL l n Or i).length) ∧ Kd.C (Kd.int .i64) w' A' (partL l n Or i).length (partL l n Or i) ∧ (∀ ad', A' = some ad' → ∃ ad, A = some ad ∧ ad'.block = ad.block) ∧ Below W.heap.size W w') := ⟨fun i W hW hi =>
    cut_part l A c 0 O AP AE ps.length cP es.length cE Bk Or i n ho hb hord hdiv hn (by omega) hl hc W hW⟩
  have hne : (((l.length : Int)) != (Bk : Int) - (Or : Int)) = false := bne_eq_false_iff_eq.mpr (by omega)
  obtain ⟨wz, hwz⟩ : ∃ wz, wz = w.heap.size := ⟨_, rfl⟩
  have HWZ := Aside0.mk hwz
  have hS1 : EncSt w B g wz #[.int .i64 0, .int .i64 O, .slice AP ps.length cP, .slice AE es.length cE] AP AE A ps es l v (w.alloc (.cells #[.int .i64 0, .int .i64 O, .slice AP ps.length cP, .slice AE es.length cE] 24)) v bs := by
    have hbel : Below w.heap.size w (w.alloc (.cells #[.int .i64 0, .int .i64 O, .slice AP ps.length cP, .slice AE es.length cE] 24)) := below_alloc (Below.refl _ _) _
    exact ⟨hW.below hbel, (Moved.refl B g w v).new hbel (by have := hW.lt; have := hW.2.2; omega), by rw [hwz]; exact blk_new w _, hP.below hbel, hE.below hbel, hA.below hbel⟩
  have HS1 := Aside0.mk hS1
  clear hk hP hE hA hck hall hok hin hdiv hps hes hl hwz hn hW hS1
  go_enter Try.func13, Try.ntmps13
  go_wp2_with fail
  with_reducible refine (HK.out _ (below_alloc (Below.refl _ _) _)).mono ?_
  rintro e w2 ⟨rfl, hB⟩
  have HS2 := Aside0.mk (HS1.out.below hB)
  clear hB HS1 HK
  rw [← HWZ.out]
  have b2 := blk_cell HS2.out.box 2
  go_wp2
  go_loopw [38] (fun iv wr => ∃ i : Nat, i ≤ ps.length ∧ iv = .int .i64 i ∧ Aside0 (EncSt w B g wz #[.int .i64 0, .int .i64 O, .slice AP ps.length cP, .slice AE es.length cE] AP AE A ps es l v wr v bs)) (fun iv _ => ps.length - (intOf iv).toNat)
  case atStart => exact ⟨0, by omega, rfl, HS2⟩
  case round =>
    clear HS2 b2
    obtain ⟨i, hi, rfl, HS⟩ := hrel
    by_cases hlt : i < ps.length
    · have i0 : (0 : Int) ≤ (i : Int) := by omega
      have i1 : (i : Int) < (ps.length : Int) := by omega
      have i2 : (i : Int) < (es.length : Int) := by omega
      obtain ⟨adP, rfl, hxP⟩ := HS.out.P.reads.at_ (i : Int) (by omega) i1
      obtain ⟨adE, rfl, hxE⟩ := HS.out.E.reads.at_ (i : Int) (by omega) i2
      rw [Int.toNat_natCast] at hxP hxE
      have HMAYi : Aside0 (∀ W A', Kd.C (Kd.int .i64) W A' (partL l n Or i).length (partL l n Or i) → _) := ⟨fun W A' h => HMAY.out i W A' h hlt⟩
      have HCUTi : Aside0 (∀ W, Kd.C (Kd.int .i64) W A l.length l → _) := ⟨fun W h => HCUT.out i W h hlt⟩
      have HSK : Aside0 (∀ W, EncSt w B g wz #[.int .i64 0, .int .i64 O, .slice (some adP) ps.length cP, .slice (some adE) es.length cE] (some adP) (some adE) A ps es l v W v bs → W.cell? ⟨wz, 0, none⟩ = some (.int .i64 0) ∧ W.cell? ⟨wz, 1, none⟩ = some (.int .i64 O) ∧ W.cell? ⟨wz, 2, none⟩ = some (.slice (some adP) ps.length cP) ∧ W.cell? ⟨wz, 3, none⟩ = some (.slice (some adE) es.length cE) ∧ W.cell? (adE.add i) = some (.int .i64 (rd es (i : Int)))) := ⟨fun W h1 => by
        have hb := h1.box
        obtain ⟨ad, e1, e2⟩ := h1.E.reads.at_ (i : Int) (by omega) i2
        injection e1 with e1
        subst e1
        rw [Int.toNat_natCast] at e2
        exact ⟨blk_cell hb 0, blk_cell hb 1, blk_cell hb 2, blk_cell hb 3, e2⟩⟩
      generalize rd ps (i : Int) = kk at hxP HMAYi
      generalize rd es (i : Int) = ee at hxE HMAYi HSK
      generalize (partL l n Or i).length = nn at HMAYi HCUTi
      generalize partL l n Or i = pl at HMAYi HCUTi
      have hCL : ∀ W y, EncSt w B g wz #[.int .i64 0, .int .i64 O, .slice (some adP) ps.length cP, .slice (some adE) es.length cE] (some adP) (some adE) A ps es l v W y bs → Kd.C (Kd.int .i64) W A l.length l := fun W y h => h.L.1
      have HCL := Aside0.mk hCL
      clear hCL
      have hsr := HS.out.below (below_drew (Below.refl wr.heap.size wr))
      clear HMAY HCUT HS
      go_wp2
      go_region_held3 (fun W => W.cell? ⟨wz, 0, none⟩ = some (.int .i64 0) ∧ W.cell? ⟨wz, 1, none⟩ = some (.int .i64 O) ∧ W.cell? ⟨wz, 2, none⟩ = some (.slice (some adP) ps.length cP) ∧ W.cell? ⟨wz, 3, none⟩ = some (.slice (some adE) es.length cE) ∧ W.cell? (adE.add i) = some (.int .i64 ee)) (first | exact HSK.out _ hsr)
        ((first | (go_at_call 32; (with_reducible refine (HCUTi.out _ (HCL.out _ _ hsr)).mono ?_); rintro e w4 ⟨A4, rfl, hC4, _, hn4⟩; have hs2 := hsr.below hn4; clear hsr hn4; have hsr := hs2; clear hs2) | (go_at_call 31; (with_reducible refine (HMAYi.out _ _ hC4).mono ?_); rintro e w4 ⟨rfl, hn4⟩; have hs2 := hsr.below hn4; clear hsr hn4; have hsr := hs2; clear hs2)))
      all_goals
        have HS4 := Aside0.mk hsr
        clear hsr
        go_wp2
        go_roundw
        case rel => exact ⟨i + 1, by omega, by go_num, HS4⟩
        case measure => simp [intOf]; omega
    · obtain rfl : i = ps.length := by omega
      clear hlt hi HMAY
      have d0 := blk_cell HS.out.box 0
      have d1 := blk_cell HS.out.box 1
      have HP1 := Aside0.mk (Put_i 0 2 (nbits 0 2) rfl (by omega) (by omega) (by omega) (by decide) bs B g v wr HS.out.wat (by omega))
      go_wp2_with fail
      with_reducible refine HP1.out.mono ?_
      rintro e w3 ⟨rfl, v3, hw3, hm3⟩
      have HS3 := Aside0.mk (HS.out.step hw3 hm3)
      clear hw3 hm3 HS HP1 d0 d1
      have d0 := blk_cell HS3.out.box 0
      have d1 := blk_cell HS3.out.box 1
      have HP1 := Aside0.mk (Put_i O 4 (nbits O 4) rfl (by omega) (by omega) (by omega) (by rw [show (2 : Int) ^ (4 : Int).toNat = 16 by decide]; omega) _ B g v3 w3 HS3.out.wat (by rw [List.length_append, nbits_length]; omega))
      go_wp2_with fail
      with_reducible refine HP1.out.mono ?_
      rintro e w4 ⟨rfl, v4, hw4, hm4⟩
      have HS4 := HS3.out.step hw4 hm4
      rw [List.append_assoc] at HS4
      have HS5 := Aside0.mk HS4
      clear hw4 hm4 HS3 HP1 d0 d1 HS4
      have d2 := blk_cell HS5.out.box 2
      go_wp2
      go_loopw [74] (fun iv wr => ∃ (i : Nat) (u : Value), i ≤ ps.length ∧ iv = .int .i64 i ∧ Aside0 (EncSt w B g wz #[.int .i64 0, .int .i64 O, .slice AP ps.length cP, .slice AE es.length cE] AP AE A ps es l v wr u (bs ++ (nbits 0 2 ++ (nbits O 4 ++ partsX 4 n Or ps es l i))))) (fun iv _ => ps.length - (intOf iv).toNat)
      case atStart => exact ⟨0, v4, by omega, rfl, ⟨by simpa [partsX] using HS5.out⟩⟩
      case round =>
        clear HS5 d2
        obtain ⟨i, u, hi, rfl, HS⟩ := hrel
        by_cases hlt : i < ps.length
        · have i0 : (0 : Int) ≤ (i : Int) := by omega
          have i1 : (i : Int) < (ps.length : Int) := by omega
          have i2 : (i : Int) < (es.length : Int) := by omega
          obtain ⟨adP, rfl, hxP⟩ := HS.out.P.reads.at_ (i : Int) (by omega) i1
          obtain ⟨adE, rfl, hxE⟩ := HS.out.E.reads.at_ (i : Int) (by omega) i2
          rw [Int.toNat_natCast] at hxP hxE
          have HCUTi : Aside0 (∀ W, Kd.C (Kd.int .i64) W A l.length l → _) := ⟨fun W h => HCUT.out i W h hlt⟩
          have hLC : ∀ {W : World} {y : Value} {A' : Option Addr}, ListAt W g y A l → Kd.C (Kd.int .i64) W A' (partL l n Or i).length (partL l n Or i) → (∀ ad', A' = some ad' → ∃ ad, A = some ad ∧ ad'.block = ad.block) → ListAt W g y A' (partL l n Or i) := fun h h2 h3 => h.cut h2 h3
          have HLC := Aside0.mk @hLC
          have hmay := allMay_at HALL.out i hlt
          obtain ⟨k0, k1, e0, e1, ek⟩ := HOK.out i hlt
          have hsz := HLEN.out i hi
          have hlp := partL_length l n Or i
          have hnx : (i + 1) * n = i * n + n := Nat.succ_mul i n
          have hnx2 := (HLEN.out (i + 1) (by omega)).2
          have hpi : ∀ x ∈ partL l n Or i, -9223372036854775808 ≤ x ∧ x ≤ 9223372036854775807 := fun x hx => HIN.out x (List.mem_of_mem_take (List.mem_of_mem_drop hx))
          have HPI := Aside0.mk hpi
          have hX : partsX 4 n Or ps es l (i + 1) = partsX 4 n Or ps es l i ++ (headX 4 (rd ps (i : Int)) (rd es (i : Int)) ++ bodyX (rd ps (i : Int)) (rd es (i : Int)) (partL l n Or i)) := partsX_snoc 4 n Or ps es l i
          have HX := Aside0.mk hX
          have k2 : rd ps (i : Int) < 15 := by simp at k1; omega
          obtain ⟨X, hXX⟩ : ∃ X, bs ++ (nbits 0 2 ++ (nbits O 4 ++ partsX 4 n Or ps es l i)) = X := ⟨_, rfl⟩
          have hXl : X.length + 20000000 + 16777300 * n < 1125899906842624 := by
            rw [← hXX, List.length_append, List.length_append, List.length_append, nbits_length, nbits_length]
            omega
          have HNX : Aside0 (∀ Y, Y = X ++ (headX 4 (rd ps (i : Int)) (rd es (i : Int)) ++ bodyX (rd ps (i : Int)) (rd es (i : Int)) (partL l n Or i)) → Y = bs ++ (nbits 0 2 ++ (nbits O 4 ++ partsX 4 n Or ps es l (i + 1)))) := ⟨fun Y hY => by rw [hY, ← hXX, HX.out]; simp⟩
          rw [hXX] at HS
          clear hX HX hXX hpi hLC hsz hnx hnx2 k1
          generalize rd ps (i : Int) = kk at hxP hmay k0 k2 ek HNX
          generalize rd es (i : Int) = ee at hxE hmay e0 e1 ek HNX
          have HPL : Aside0 ((partL l n Or i).length ≤ n) := ⟨hlp⟩
          have hp65 : (partL l n Or i).length ≤ 65535 := by omega
          generalize hpl2 : partL l n Or i = pl at HCUTi hmay HPI HNX HLC HPL hp65
          clear hpl2 hlp HCUT HLEN HALL HOK HIN
          have HMY := Aside0.mk hmay
          clear hmay
          have HBE : Aside0 (∀ x ∈ pl, mayOk kk ee x = true) := ⟨fun x hx => (List.all_eq_true.1 HMY.out) x hx⟩
          obtain ⟨K, rfl⟩ := Int.eq_ofNat_of_zero_le k0
          have hK30 : K < 15 := by omega
          have d3 := blk_cell HS.out.box 3
          by_cases he : ee < 0
          · have hhd : headX 4 (K : Int) ee = nbits K 4 := by unfold headX; rw [if_pos he, Int.toNat_natCast]
            rw [hhd] at HNX
            clear hhd ek
            have HP1 := Aside0.mk (Put_i K 4 (nbits K 4) rfl (by omega) (by omega) (by omega) (by rw [show (2 : Int) ^ (4 : Int).toNat = 15 + 1 by decide]; omega) _ B g u wr HS.out.wat (by omega))
            go_wp2_with fail
            with_reducible refine HP1.out.mono ?_
            rintro e w5 ⟨rfl, v5, hw5, hm5⟩
            have HS5 := Aside0.mk (HS.out.step hw5 hm5)
            clear hw5 hm5 HS HP1 d3 hxP hxE
            have d0 := blk_cell HS5.out.box 0
            have d1 := blk_cell HS5.out.box 1
            have d2 := blk_cell HS5.out.box 2
            have d3 := blk_cell HS5.out.box 3
            have HCC := Aside0.mk (HCUTi.out _ HS5.out.L.1)
            go_wp2_with fail
            with_reducible refine HCC.out.mono ?_
            rintro e w6 ⟨A6, rfl, hC6, hA6, hn6⟩
            have HS6 := Aside0.mk (HS5.out.below hn6)
            have HL6 := Aside0.mk (HLC.out HS6.out.L hC6 hA6)
            clear hC6 hA6 hn6 HS5 HCC HCUTi HLC d0 d1 d2 d3
            go_wp2
            go_loopw [108] (fun jv wr => ∃ (j : Nat) (y : Value), j ≤ pl.length ∧ jv = .int .i64 j ∧ Aside0 (EncSt w B g wz #[.int .i64 0, .int .i64 O, .slice (some adP) ps.length cP, .slice (some adE) es.length cE] (some adP) (some adE) A ps es l v wr y (X ++ (nbits K 4 ++ bodyX K ee (pl.take j)))) ∧ Aside0 (ListAt wr g y A6 pl)) (fun jv _ => pl.length - (intOf jv).toNat)
            case atStart => exact ⟨0, v5, by omega, rfl, ⟨by simpa [bodyX] using HS6.out⟩, HL6⟩
            case round =>
              clear HS6 HL6
              obtain ⟨j, y, hj, rfl, HS, HL⟩ := hrel
              by_cases hjl : j < pl.length
              · have j0 : (0 : Int) ≤ (j : Int) := by omega
                have j1 : (j : Int) < (pl.length : Int) := by omega
                obtain ⟨adL, rfl, hx⟩ := HL.out.reads.at_ (j : Int) (by omega) j1
                rw [Int.toNat_natCast] at hx
                obtain ⟨x0, x1⟩ := HPI.out _ (rd_mem pl j hjl)
                have hmx := HBE.out _ (rd_mem pl j hjl)
                have hbl := bodyX_length K ee (pl.take j) (mayF_take pl K ee j HMY.out) (by omega) (by omega) e1
                have htl : (pl.take j).length = j := by rw [List.length_take]; omega
                have hsn := bodyX_snoc K ee pl j hjl
                have hpn9 := HPL.out
                have hri : riceP (rd pl (j : Int)) (K : Nat) := by
                  unfold mayOk at hmx
                  rw [if_pos he] at hmx
                  exact ⟨by omega, by omega, of_decide_eq_true hmx⟩
                have hcx : codeX K ee (rd pl (j : Int)) = riceB (rd pl (j : Int)) K := by unfold codeX; rw [if_pos he, Int.toNat_natCast]
                have HR1 := Aside0.mk (Rice_yes (rd pl (j : Int)) K x0 x1 hri _ B g y wr HS.out.wat (by rw [List.length_append, List.length_append, nbits_length]; omega))
                have HNB : Aside0 (∀ Y, Y = (X ++ (nbits K 4 ++ bodyX K ee (pl.take j))) ++ riceB (rd pl (j : Int)) K → Y = X ++ (nbits K 4 ++ bodyX K ee (pl.take (j + 1)))) := ⟨fun Y hY => by rw [hY, hsn, hcx]; simp⟩
                clear hmx hbl htl hsn hri hcx hpn9
                generalize rd pl (j : Int) = x at hx x0 x1 HR1 HNB
                go_wp2_with fail
                with_reducible refine HR1.out.mono ?_
                rintro e w7 ⟨rfl, v7, hw7, hm7⟩
                have hl7 := HL.out.moved hm7
                have hs7 := HS.out.step hw7 hm7
                rw [HNB.out _ rfl] at hs7
                have HS7 := Aside0.mk hs7
                have HL7 := Aside0.mk hl7
                clear hw7 hm7 hs7 hl7 HS HL HR1 HNB
                go_wp2
                go_roundw
                case rel => exact ⟨j + 1, v7, by omega, by go_num, HS7, HL7⟩
                case measure => simp [intOf]; omega
              · obtain rfl : j = pl.length := by omega
                have hs8 := HS.out
                rw [List.take_length, HNX.out _ rfl] at hs8
                have HS8 := Aside0.mk hs8
                clear hs8 HS HL
                go_wp2
                go_roundw
                case rel => exact ⟨i + 1, y, by omega, by go_num, HS8⟩
                case measure => simp [intOf]; omega
          · obtain ⟨E, rfl⟩ := Int.eq_ofNat_of_zero_le (show 0 ≤ ee by omega)
            have hhd : headX 4 (K : Int) (E : Int) = nbits 15 4 ++ nbits E 5 := by unfold headX; rw [if_neg he, Int.toNat_natCast]
            rw [hhd] at HNX
            clear hhd
            have HP1 := Aside0.mk (Put_i 15 4 (nbits 15 4) rfl (by omega) (by omega) (by omega) (by decide) _ B g u wr HS.out.wat (by omega))
            go_wp2_with fail
            with_reducible refine HP1.out.mono ?_
            rintro e w5 ⟨rfl, v5, hw5, hm5⟩
            have HS5 := Aside0.mk (HS.out.step hw5 hm5)
            clear hw5 hm5 HS HP1 d3 hxP hxE
            have HP1 := Aside0.mk (Put_i E 5 (nbits E 5) rfl (by omega) (by omega) (by omega) (by rw [show (2 : Int) ^ (5 : Int).toNat = 32 by decide]; omega) _ B g v5 w5 HS5.out.wat (by rw [List.length_append, nbits_length]; omega))
            go_wp2_with fail
            with_reducible refine HP1.out.mono ?_
            rintro e w9 ⟨rfl, v9, hw9, hm9⟩
            have hs9 := HS5.out.step hw9 hm9
            rw [List.append_assoc] at hs9
            have HS9 := Aside0.mk hs9
            clear hw9 hm9 HS5 HP1 hs9
            have d0 := blk_cell HS9.out.box 0
            have d1 := blk_cell HS9.out.box 1
            have d2 := blk_cell HS9.out.box 2
            have d3 := blk_cell HS9.out.box 3
            have HCC := Aside0.mk (HCUTi.out _ HS9.out.L.1)
            go_wp2_with fail
            with_reducible refine HCC.out.mono ?_
            rintro e w6 ⟨A6, rfl, hC6, hA6, hn6⟩
            have HS6 := Aside0.mk (HS9.out.below hn6)
            have HL6 := Aside0.mk (HLC.out HS6.out.L hC6 hA6)
            clear hC6 hA6 hn6 HS9 HCC HCUTi HLC d0 d1 d2 d3
            by_cases he0 : 0 < (E : Int)
            · go_wp2
              go_loopw [108] (fun jv wr => ∃ (j : Nat) (y : Value), j ≤ pl.length ∧ jv = .int .i64 j ∧ Aside0 (EncSt w B g wz #[.int .i64 0, .int .i64 O, .slice (some adP) ps.length cP, .slice (some adE) es.length cE] (some adP) (some adE) A ps es l v wr y (X ++ ((nbits 15 4 ++ nbits E 5) ++ bodyX K E (pl.take j)))) ∧ Aside0 (ListAt wr g y A6 pl)) (fun jv _ => pl.length - (intOf jv).toNat)
              case atStart => exact ⟨0, v9, by omega, rfl, ⟨by simpa [bodyX] using HS6.out⟩, HL6⟩
              case round =>
                clear HS6 HL6
                obtain ⟨j, y, hj, rfl, HS, HL⟩ := hrel
                by_cases hjl : j < pl.length
                · have j0 : (0 : Int) ≤ (j : Int) := by omega
                  have j1 : (j : Int) < (pl.length : Int) := by omega
                  obtain ⟨adL, rfl, hx⟩ := HL.out.reads.at_ (j : Int) (by omega) j1
                  rw [Int.toNat_natCast] at hx
                  obtain ⟨x0, x1⟩ := HPI.out _ (rd_mem pl j hjl)
                  have hmx := HBE.out _ (rd_mem pl j hjl)
                  have hbl := bodyX_length K E (pl.take j) (mayF_take pl K E j HMY.out) (by omega) (by omega) e1
                  have htl : (pl.take j).length = j := by rw [List.length_take]; omega
                  have hsn := bodyX_snoc K E pl j hjl
                  have hpn9 := HPL.out
                  have hri : fitsP (rd pl (j : Int)) (E : Nat) := by
                    unfold mayOk at hmx
                    rw [if_neg (show ¬ (E : Int) < 0 by omega), if_pos he0] at hmx
                    exact of_decide_eq_true hmx
                  have hcx : codeX K E (rd pl (j : Int)) = nbits (wordN (rd pl (j : Int))) E := by unfold codeX; rw [if_neg (show ¬ (E : Int) < 0 by omega), if_pos he0, Int.toNat_natCast]
                  have HR1 := Aside0.mk (Signed_yes (rd pl (j : Int)) E x0 x1 hri _ B g y wr HS.out.wat (by rw [List.length_append, List.length_append, List.length_append, nbits_length, nbits_length]; omega))
                  have HNB : Aside0 (∀ Y, Y = (X ++ ((nbits 15 4 ++ nbits E 5) ++ bodyX K E (pl.take j))) ++ nbits (wordN (rd pl (j : Int))) E → Y = X ++ ((nbits 15 4 ++ nbits E 5) ++ bodyX K E (pl.take (j + 1)))) := ⟨fun Y hY => by rw [hY, hsn, hcx]; simp⟩
                  clear hmx hbl htl hsn hri hcx hpn9
                  generalize rd pl (j : Int) = x at hx x0 x1 HR1 HNB
                  go_wp2_with fail
                  with_reducible refine HR1.out.mono ?_
                  rintro e w7 ⟨rfl, v7, hw7, hm7⟩
                  have hl7 := HL.out.moved hm7
                  have hs7 := HS.out.step hw7 hm7
                  rw [HNB.out _ rfl] at hs7
                  have HS7 := Aside0.mk hs7
                  have HL7 := Aside0.mk hl7
                  clear hw7 hm7 hs7 hl7 HS HL HR1 HNB
                  go_wp2
                  go_roundw
                  case rel => exact ⟨j + 1, v7, by omega, by go_num, HS7, HL7⟩
                  case measure => simp [intOf]; omega
                · obtain rfl : j = pl.length := by omega
                  have hs8 := HS.out
                  rw [List.take_length, HNX.out _ rfl] at hs8
                  have HS8 := Aside0.mk hs8
                  clear hs8 HS HL
                  go_wp2
                  go_roundw
                  case rel => exact ⟨i + 1, y, by omega, by go_num, HS8⟩
                  case measure => simp [intOf]; omega
            · obtain rfl : E = 0 := by omega
              clear he he0
              go_wp2
              go_loopw [108] (fun jv wr => ∃ (j : Nat), j ≤ pl.length ∧ jv = .int .i64 j ∧ Aside0 (EncSt w B g wz #[.int .i64 0, .int .i64 O, .slice (some adP) ps.length cP, .slice (some adE) es.length cE] (some adP) (some adE) A ps es l v wr v9 (X ++ (nbits 15 4 ++ nbits 0 5))) ∧ Aside0 (ListAt wr g v9 A6 pl)) (fun jv _ => pl.length - (intOf jv).toNat)
              case atStart => exact ⟨0, by omega, rfl, HS6, HL6⟩
              case round =>
                clear HS6 HL6
                obtain ⟨j, hj, rfl, HS, HL⟩ := hrel
                by_cases hjl : j < pl.length
                · have j0 : (0 : Int) ≤ (j : Int) := by omega
                  have j1 : (j : Int) < (pl.length : Int) := by omega
                  obtain ⟨adL, rfl, hx⟩ := HL.out.reads.at_ (j : Int) (by omega) j1
                  rw [Int.toNat_natCast] at hx
                  generalize rd pl (j : Int) = x at hx
                  go_wp2
                  go_roundw
                  case rel => exact ⟨j + 1, by omega, by go_num, HS, HL⟩
                  case measure => simp [intOf]; omega
                · obtain rfl : j = pl.length := by omega
                  have hs8 := HS.out
                  rw [HNX.out (X ++ (nbits 15 4 ++ nbits 0 5)) (by
                    have : bodyX K ((0 : Nat) : Int) pl = [] := by
                      unfold bodyX codeX
                      simp
                    rw [this]
                    simp)] at hs8
                  have HS8 := Aside0.mk hs8
                  clear hs8 HS HL
                  go_wp2
                  go_roundw
                  case rel => exact ⟨i + 1, v9, by omega, by go_num, HS8⟩
                  case measure => simp [intOf]; omega
        · obtain rfl : i = ps.length := by omega
          go_wp2
          go_ret
          exact ⟨rfl, u, HS.out.wat, HS.out.mv⟩
end Go.Proofs.Ytfhekkoibmlmpaa.Hand
