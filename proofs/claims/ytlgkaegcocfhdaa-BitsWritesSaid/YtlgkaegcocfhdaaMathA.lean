/- Plain words of layer 1: rows of bits, and their bytes. -/
import Derived.Test.YtlgkaegcocfhdaaProg
import Derived.WalkKit
import Derived.KernelRfl
import Derived.Laws.BytesArg
import Derived.Test.YtlgkaegcocfhdaaWWords
namespace Go.Proofs.Ytlgkaegcocfhdaa.Hand
open Go.RowKit Go.Proofs.YtlgkaegcocfhdaaW.PrintWords
set_option linter.unusedVariables false
set_option linter.unusedSimpArgs false

/-- The value of bits, the highest first, the first one of weight w. -/
def val : List Bool → Nat → Nat
  | [], _ => 0
  | b :: l, w => (if b then w else 0) + val l (w / 2)
theorem val_snoc (b : Bool) : ∀ (l : List Bool) (w : Nat), val (l ++ [b]) w = val l w + (if b then w / 2 ^ l.length else 0)
  | [], w => by simp [val]
  | a :: l, w => by
    rw [List.cons_append, val, val_snoc b l, val, Nat.div_div_eq_div_mul, List.length_cons, Nat.pow_succ, Nat.mul_comm 2]
    omega
theorem val_lt : ∀ (l : List Bool) (k : Nat), val l (2 ^ k) < 2 ^ (k + 1)
  | [], k => by simp only [val]; exact Nat.two_pow_pos _
  | b :: l, 0 => by
    have : val l 0 = 0 := by
      induction l with
      | nil => rfl
      | cons a l ih => simp only [val, Nat.zero_div, ih]; cases a <;> rfl
    simp only [val]
    rw [show 2 ^ 0 / 2 = 0 from rfl, this]
    cases b <;> decide
  | b :: l, k + 1 => by
    have h := val_lt l k
    simp only [val]
    rw [show 2 ^ (k + 1) / 2 = 2 ^ k by rw [Nat.pow_succ, Nat.mul_div_cancel _ (by decide)], Nat.pow_succ 2 (k + 1)]
    cases b <;> simp <;> omega
theorem val_mod : ∀ (l : List Bool) (k : Nat), l.length ≤ k + 1 → val l (2 ^ k) % 2 ^ (k + 1 - l.length) = 0
  | [], k, _ => by simp [val]
  | b :: l, 0, h => by
    have : l = [] := by
      apply List.eq_nil_of_length_eq_zero
      simp at h
      exact List.length_eq_zero_iff.2 h
    subst this
    cases b <;> decide
  | b :: l, k + 1, h => by
    have h2 : l.length ≤ k + 1 := by simpa using h
    have hv := val_mod l k h2
    simp only [val]
    rw [show 2 ^ (k + 1) / 2 = 2 ^ k by rw [Nat.pow_succ, Nat.mul_div_cancel _ (by decide)], List.length_cons, show k + 1 + 1 - (l.length + 1) = k + 1 - l.length by omega]
    have hd : 2 ^ (k + 1 - l.length) ∣ 2 ^ (k + 1) := Nat.pow_dvd_pow 2 (by omega)
    have hd2 := Nat.dvd_of_mod_eq_zero hv
    apply Nat.mod_eq_zero_of_dvd
    cases b
    · simpa using hd2
    · exact Nat.dvd_add hd hd2
theorem val_bit : ∀ (l : List Bool) (k i : Nat), i ≤ k → l.length ≤ k + 1 → (val l (2 ^ k)).testBit (k - i) = l.getD i false
  | [], k, i, _, _ => by simp [val]
  | b :: l, 0, i, h, hl => by
    have : l = [] := by
      apply List.eq_nil_of_length_eq_zero
      simp at hl
      exact List.length_eq_zero_iff.2 hl
    subst this
    obtain rfl : i = 0 := by omega
    cases b <;> decide
  | b :: l, k + 1, i, h, hl => by
    have h2 : l.length ≤ k + 1 := by simpa using hl
    have hlt := val_lt l k
    simp only [val]
    rw [show 2 ^ (k + 1) / 2 = 2 ^ k by rw [Nat.pow_succ, Nat.mul_div_cancel _ (by decide)]]
    cases i with
    | zero =>
      rw [Nat.sub_zero]
      cases b
      · simp [Nat.testBit_lt_two_pow hlt]
      · simp [Nat.testBit_two_pow_add_eq, Nat.testBit_lt_two_pow hlt]
    | succ i =>
      have ih := val_bit l k i (by omega) h2
      rw [show k + 1 - (i + 1) = k - i by omega, List.getD_cons_succ, ← ih]
      cases b
      · simp
      · simp only [if_true]
        rw [Nat.testBit_two_pow_add_gt (by omega)]
/-- Bits as bytes; the last byte with noughts. -/
def pack (bs : List Bool) : List Int := (List.range ((bs.length + 7) / 8)).map fun j => ((val ((bs.drop (8 * j)).take 8) 128 : Nat) : Int)
theorem pack_length (bs : List Bool) : (pack bs).length = (bs.length + 7) / 8 := by simp [pack]
theorem pack_at (bs : List Bool) (j : Nat) (h : j < (bs.length + 7) / 8) : (pack bs)[j]? = some ((val ((bs.drop (8 * j)).take 8) 128 : Nat) : Int) := by simp [pack, h]
theorem pack_none (bs : List Bool) (j : Nat) (h : (bs.length + 7) / 8 ≤ j) : (pack bs)[j]? = none := by simp [pack, h]
theorem chunk_in (bs : List Bool) (b : Bool) (j : Nat) (h : 8 * j + 8 ≤ bs.length) : ((bs ++ [b]).drop (8 * j)).take 8 = (bs.drop (8 * j)).take 8 := by
  rw [List.drop_append_of_le_length (by omega), List.take_append_of_le_length (by rw [List.length_drop]; omega)]
theorem chunk_last (bs : List Bool) (b : Bool) : ((bs ++ [b]).drop (8 * (bs.length / 8))).take 8 = bs.drop (8 * (bs.length / 8)) ++ [b] := by
  rw [List.drop_append_of_le_length (by omega), List.take_of_length_le (by simp; omega)]
theorem last_length (bs : List Bool) : (bs.drop (8 * (bs.length / 8))).length = bs.length % 8 := by rw [List.length_drop]; omega
theorem pack_false (bs : List Bool) : pack (bs ++ [false]) = if bs.length % 8 = 0 then pack bs ++ [0] else pack bs := by
  by_cases h : bs.length % 8 = 0
  · rw [if_pos h]
    apply List.ext_getElem?
    intro j
    by_cases hj : j < bs.length / 8
    · rw [pack_at _ _ (by simp; omega), chunk_in _ _ _ (by omega), List.getElem?_append_left (by rw [pack_length]; omega), pack_at _ _ (by omega)]
    · by_cases e : j = bs.length / 8
      · subst e
        rw [pack_at _ _ (by simp; omega), chunk_last, List.getElem?_append_right (by rw [pack_length]; omega), pack_length, show bs.length / 8 - (bs.length + 7) / 8 = 0 by omega, List.drop_of_length_le (by omega)]
        rfl
      · rw [pack_none _ _ (by simp; omega), List.getElem?_eq_none (by simp [pack_length]; omega)]
  · rw [if_neg h]
    apply List.ext_getElem?
    intro j
    by_cases hj : j < bs.length / 8
    · rw [pack_at _ _ (by simp; omega), chunk_in _ _ _ (by omega), pack_at _ _ (by omega)]
    · by_cases e : j = bs.length / 8
      · subst e
        rw [pack_at _ _ (by simp; omega), chunk_last, pack_at _ _ (by omega), List.take_of_length_le (by rw [last_length]; omega), val_snoc]
        simp
      · rw [pack_none _ _ (by simp; omega), pack_none _ _ (by omega)]
theorem or8 : ∀ r : Nat, r < 8 → ∀ m : Nat, m < 256 → m % 2 ^ (8 - r) = 0 → Go.bits .or .u8 (m : Int) ((128 / 2 ^ r : Nat) : Int) = ((m + 128 / 2 ^ r : Nat) : Int) := by decide +kernel
/-- A one more: the last byte's bit is laid. -/
theorem pack_true (bs : List Bool) : ∃ x, (pack (bs ++ [false]))[bs.length / 8]? = some x ∧ 0 ≤ x ∧ x < 256 ∧ pack (bs ++ [true]) = (pack (bs ++ [false])).set (bs.length / 8) (Go.bits .or .u8 x ((128 / 2 ^ (bs.length % 8) : Nat) : Int)) := by
  have hl := last_length bs
  have hlt : val (bs.drop (8 * (bs.length / 8))) 128 < 256 := val_lt _ 7
  have hm : val (bs.drop (8 * (bs.length / 8))) 128 % 2 ^ (7 + 1 - (bs.drop (8 * (bs.length / 8))).length) = 0 := val_mod _ 7 (by omega)
  rw [hl] at hm
  have e0 : (pack (bs ++ [false]))[bs.length / 8]? = some ((val (bs.drop (8 * (bs.length / 8))) 128 : Nat) : Int) := by
    rw [pack_at _ _ (by simp; omega), chunk_last, val_snoc]
    simp
  refine ⟨_, e0, by omega, by omega, ?_⟩
  rw [or8 (bs.length % 8) (by omega) _ hlt hm]
  apply List.ext_getElem?
  intro j
  rw [List.getElem?_set]
  by_cases e : bs.length / 8 = j
  · subst e
    rw [if_pos rfl, if_pos (by rw [pack_length]; simp; omega), pack_at _ _ (by simp; omega), chunk_last, val_snoc, hl]
    simp
  · rw [if_neg e]
    by_cases hj : j < bs.length / 8
    · rw [pack_at _ _ (by simp; omega), chunk_in _ _ _ (by omega), pack_at _ _ (by simp; omega), chunk_in _ _ _ (by omega)]
    · rw [pack_none _ _ (by simp; omega), pack_none _ _ (by simp; omega)]
theorem pack_eight (bs : List Bool) (h : bs.length % 8 = 0) : pack (bs ++ List.replicate 8 false) = pack bs ++ [0] := by
  have e1 : pack (bs ++ [false]) = pack bs ++ [0] := by rw [pack_false, if_pos h]
  have step : ∀ (bs : List Bool), bs.length % 8 ≠ 0 → pack (bs ++ [false]) = pack bs := fun bs h => by rw [pack_false, if_neg h]
  rw [show bs ++ List.replicate 8 false = (((((((bs ++ [false]) ++ [false]) ++ [false]) ++ [false]) ++ [false]) ++ [false]) ++ [false]) ++ [false] by simp [List.replicate]]
  rw [step _ (by simp; omega), step _ (by simp; omega), step _ (by simp; omega), step _ (by simp; omega), step _ (by simp; omega), step _ (by simp; omega), step _ (by simp; omega), e1]
/-- Noughts up to a whole byte are there already. -/
theorem pack_align (bs : List Bool) (n : Nat) (h : bs.length % 8 + n ≤ 8) (h2 : bs.length % 8 ≠ 0 ∨ n = 0) : pack (bs ++ List.replicate n false) = pack bs := by
  induction n with
  | zero => simp
  | succ n ih =>
    rw [List.replicate_succ', ← List.append_assoc, pack_false, if_neg (by simp; omega)]
    exact ih (by omega) (by omega)
/-- The bit at a place of a text's bytes. -/
def bitAt (xs : List Int) (p : Nat) : Bool := (xs.getD (p / 8) 0).toNat.testBit (7 - p % 8)
theorem bit_pack (bs : List Bool) (p : Nat) : bitAt (pack bs) p = bs.getD p false := by
  unfold bitAt
  by_cases h : p / 8 < (bs.length + 7) / 8
  · rw [List.getD_eq_getElem?_getD, pack_at _ _ h, Option.getD_some, Int.toNat_natCast]
    have := val_bit ((bs.drop (8 * (p / 8))).take 8) 7 (p % 8) (by omega) (by simp; omega)
    rw [show (2 : Nat) ^ 7 = 128 from rfl] at this
    rw [this, List.getD_eq_getElem?_getD, List.getD_eq_getElem?_getD, List.getElem?_take_of_lt (by omega), List.getElem?_drop, show 8 * (p / 8) + p % 8 = p by omega]
  · rw [List.getD_eq_getElem?_getD, pack_none _ _ (by omega), List.getD_eq_getElem?_getD, List.getElem?_eq_none (by omega)]
    simp
/-- So many bits of a number, the highest first; bits as a number. -/
def nbits (u w : Nat) : List Bool := (List.range w).map fun i => u.testBit (w - 1 - i)
def natOf (l : List Bool) : Nat := l.foldl (fun n b => 2 * n + b.toNat) 0
theorem nbits_length (u w : Nat) : (nbits u w).length = w := by simp [nbits]
theorem natOf_snoc (l : List Bool) (b : Bool) : natOf (l ++ [b]) = 2 * natOf l + b.toNat := by simp [natOf]
theorem nbits_succ (u w : Nat) : nbits u (w + 1) = nbits (u / 2) w ++ [u.testBit 0] := by
  unfold nbits
  rw [List.range_succ, List.map_append]
  congr 1
  · apply List.map_congr_left
    intro i hi
    have hi := List.mem_range.1 hi
    rw [show w + 1 - 1 - i = (w - 1 - i) + 1 by omega, Nat.testBit_succ]
  · simp
theorem natOf_nbits : ∀ (w u : Nat), natOf (nbits u w) = u % 2 ^ w
  | 0, u => by simp [nbits, natOf, Nat.mod_one]
  | w + 1, u => by
    rw [nbits_succ, natOf_snoc, natOf_nbits w, Nat.testBit_zero, Nat.pow_succ, Nat.mul_comm (2 ^ w) 2, Nat.mod_mul]
    rcases Nat.mod_two_eq_zero_or_one u with h | h <;> simp [h] <;> omega
theorem nbits_take (u w : Nat) (i : Nat) (h : i < w) : (nbits u w).take (i + 1) = (nbits u w).take i ++ [u.testBit (w - 1 - i)] := by
  rw [List.take_succ_eq_append_getElem (by rw [nbits_length]; exact h)]
  simp [nbits]
theorem natOf_lt : ∀ (n : Nat) (l : List Bool), l.length = n → natOf l < 2 ^ n
  | 0, l, h => by
    rw [List.length_eq_zero_iff.1 h]
    decide
  | n + 1, l, h => by
    rcases List.eq_nil_or_concat l with e | ⟨l', b, e⟩
    · rw [e] at h; simp at h
    · rw [List.concat_eq_append] at e
      subst e
      have := natOf_lt n l' (by simpa using h)
      rw [natOf_snoc, Nat.pow_succ]
      cases b <;> simp <;> omega
end Go.Proofs.Ytlgkaegcocfhdaa.Hand
