/- The plain laws of layer 2: numbers in bytes, what Le, Be and their references come to. -/
import Derived.Test.YtfhkhbmpbmjlcaaQx7
import Derived.Test.YtfhkhbmpbmjlcaaQx6
import Derived.Test.YtfhkhbmpbmjlcaaQx5
namespace Go.Proofs.Ytfhkhbmpbmjlcaa.Math
open Go.RowKit Go.Proofs.Ytfhkhbmpbmjlcaa.Q Go.Proofs.YtfhkhbmpbmjlcaaW.PrintWords Go.Proofs.YtfhkhbmpbmjlcaaW.PrintLast Go.Proofs.YtfhkhbmpbmjlcaaW.PrintMore
set_option linter.unusedVariables false
set_option linter.unusedSimpArgs false

/-- A number's bytes, the lowest first. -/
def leL : Nat → Int → List Int
  | 0, _ => []
  | w + 1, n => n % 256 :: leL w (n / 256)
theorem leL_length (w : Nat) : ∀ n, (leL w n).length = w := by
  induction w with
  | zero => intro n; rfl
  | succ w ih => intro n; simp [leL, ih]
theorem rev_strOfNums (xs : List Int) : Hand.rev (strOfNums xs) = strOfNums xs.reverse := by
  simp [Hand.rev, strOfNums]
def Valid (n w : Int) : Prop := 1 ≤ w ∧ w ≤ 8 ∧ 0 ≤ n ∧ n < 2 ^ (8 * w.toNat)

theorem d2 (n : Int) : n / 256 / 256 = n / 65536 := by omega
theorem d3 (n : Int) : n / 65536 / 256 = n / 16777216 := by omega
theorem d4 (n : Int) : n / 16777216 / 256 = n / 4294967296 := by omega
theorem d5 (n : Int) : n / 4294967296 / 256 = n / 1099511627776 := by omega
theorem d6 (n : Int) : n / 1099511627776 / 256 = n / 281474976710656 := by omega
theorem d7 (n : Int) : n / 281474976710656 / 256 = n / 72057594037927936 := by omega
theorem Le_ok (n w : Int) (h63 : n < 9223372036854775808) (h : Valid n w) : bytes_Le.f 12 n w = some (strOfNums (leL w.toNat n), 0) := by
  obtain ⟨h1, h2, h3, h4⟩ := h
  have hw : w = 1 ∨ w = 2 ∨ w = 3 ∨ w = 4 ∨ w = 5 ∨ w = 6 ∨ w = 7 ∨ w = 8 := by omega
  rcases hw with rfl | rfl | rfl | rfl | rfl | rfl | rfl | rfl <;>
    simp at h4 <;>
    simp [bytes_Le.f, bytes_Le.j0, bytes_Le.l0, shl, shr, wrap64, IntKind.wrap, IntKind.bits, IntKind.signed, leL, h3, h4, show ¬ n < 0 by omega, d2, d3, d4, d5, d6, d7] <;> (try omega)
theorem Le_no (n w : Int) (h63 : n < 9223372036854775808) (h : ¬ Valid n w) : bytes_Le.f 12 n w = some (⟨#[]⟩, 11) := by
  by_cases h1 : w < 1
  · simp [bytes_Le.f, bytes_Le.j0, h1]
  by_cases h2 : 8 < w
  · simp [bytes_Le.f, bytes_Le.j0, h1, h2]
  by_cases h3 : n < 0
  · simp [bytes_Le.f, bytes_Le.j0, h1, h2, h3]
  have h4 : ¬ n < 2 ^ (8 * w.toNat) := fun h4 => h ⟨by omega, by omega, by omega, h4⟩
  have hw : w = 1 ∨ w = 2 ∨ w = 3 ∨ w = 4 ∨ w = 5 ∨ w = 6 ∨ w = 7 ∨ w = 8 := by omega
  rcases hw with rfl | rfl | rfl | rfl | rfl | rfl | rfl | rfl <;>
    simp at h4 <;>
    simp [bytes_Le.f, bytes_Le.j0, shl, shr, wrap64, IntKind.wrap, IntKind.bits, IntKind.signed, h3, h4] <;> (try omega)
theorem fits_eq (n w : Int) (h63 : n < 9223372036854775808) : lacquerref02_fits.f n w = some (decide (1 ≤ w ∧ w ≤ 8 ∧ 0 ≤ n ∧ n < 2 ^ (8 * w.toNat))) := by
  by_cases h1 : 1 ≤ w
  · by_cases h2 : w ≤ 8
    · by_cases h3 : 0 ≤ n
      · have hw : w = 1 ∨ w = 2 ∨ w = 3 ∨ w = 4 ∨ w = 5 ∨ w = 6 ∨ w = 7 ∨ w = 8 := by omega
        rcases hw with rfl | rfl | rfl | rfl | rfl | rfl | rfl | rfl <;>
          simp [lacquerref02_fits.f, shr, wrap64, IntKind.wrap, IntKind.bits, IntKind.signed, h3] <;> first | omega | (rw [Bool.eq_iff_iff]; simp; omega)
      · simp [lacquerref02_fits.f, h1, h2, h3]
    · simp [lacquerref02_fits.f, h1, h2]
  · simp [lacquerref02_fits.f, h1]
theorem and_mask (x : Int) (i : Nat) (hi : i < 63) : Go.bits .and .i64 x (2 ^ i - 1 : Nat) = x % 2 ^ i := by
  have hlt : (2 : Nat) ^ i - 1 < 18446744073709551616 := by
    have : (2 : Nat) ^ i < 2 ^ 63 := Nat.pow_lt_pow_right (by omega) hi
    omega
  have h2 : (2 : Nat) ^ i < 2 ^ 63 := Nat.pow_lt_pow_right (by omega) hi
  show IntKind.i64.wrap ((BitVec.ofInt 64 x &&& BitVec.ofInt 64 ((2 ^ i - 1 : Nat) : Int)).toNat : Int) = _
  rw [BitVec.toNat_and, BitVec.ofInt_natCast, BitVec.toNat_ofNat, Nat.mod_eq_of_lt (by simpa using hlt), Nat.and_two_pow_sub_one_eq_mod, BitVec.toNat_ofInt]
  have hd : (2 : Int) ^ i ∣ ((2 ^ 64 : Nat) : Int) := by
    have : (2 : Nat) ^ i ∣ 2 ^ 64 := Nat.pow_dvd_pow 2 (by omega)
    have := Int.natCast_dvd_natCast.2 this
    simpa using this
  have h3 : (((x % ((2 ^ 64 : Nat) : Int)).toNat % 2 ^ i : Nat) : Int) = x % 2 ^ i := by
    rw [Int.natCast_emod, Int.toNat_of_nonneg (Int.emod_nonneg _ (by decide))]
    simpa using Int.emod_emod_of_dvd x hd
  rw [h3, IntKind.wrap_i64]
  have h4 : (0 : Int) < 2 ^ i := Int.pow_pos (by decide)
  have h5 : (2 : Int) ^ i < 9223372036854775808 := by
    have := Int.ofNat_lt.2 h2
    simpa using this
  have h6 := Int.emod_nonneg x (show (2 : Int) ^ i ≠ 0 by omega)
  have h7 := Int.emod_lt_of_pos x h4
  omega
theorem and255 (x : Int) : Go.bits .and .i64 x 255 = x % 256 := and_mask x 8 (by decide)
theorem and63 (x : Int) : Go.bits .and .i64 x 63 = x % 64 := and_mask x 6 (by decide)
theorem BeR_ok (n w : Int) (h63 : n < 9223372036854775808) (h : Valid n w) : lacquerref02_Be.f 12 n w = some (strOfNums (leL w.toNat n).reverse, 0) := by
  have hf := fits_eq n w h63
  rw [show decide (1 ≤ w ∧ w ≤ 8 ∧ 0 ≤ n ∧ n < 2 ^ (8 * w.toNat)) = true from decide_eq_true h] at hf
  obtain ⟨h1, h2, h3, h4⟩ := h
  have hw : w = 1 ∨ w = 2 ∨ w = 3 ∨ w = 4 ∨ w = 5 ∨ w = 6 ∨ w = 7 ∨ w = 8 := by omega
  rcases hw with rfl | rfl | rfl | rfl | rfl | rfl | rfl | rfl <;>
    simp at h4 <;>
    simp [lacquerref02_Be.f, lacquerref02_Be.l0, hf, wrap64, leL, and255, h3, h4, d2, d3, d4, d5, d6, d7]
theorem BeR_no (n w : Int) (h63 : n < 9223372036854775808) (h : ¬ Valid n w) : lacquerref02_Be.f 12 n w = some (⟨#[]⟩, 11) := by
  have hf := fits_eq n w h63
  rw [show decide (1 ≤ w ∧ w ≤ 8 ∧ 0 ≤ n ∧ n < 2 ^ (8 * w.toNat)) = false from decide_eq_false h] at hf
  simp [lacquerref02_Be.f, hf]
theorem rev_list (s : ByteArray) : strOfNums ((List.range s.size).map fun j => bt s ((s.size - 1 - j : Nat) : Int)) = Hand.rev s := by
  have e : ((List.range s.size).map fun j => bt s ((s.size - 1 - j : Nat) : Int)) = (List.range (Hand.rev s).size).map fun j => bt (Hand.rev s) (j : Nat) := by
    rw [Hand.rev_size]
    refine List.map_congr_left fun j hj => ?_
    have hj' : j < s.size := by simpa using hj
    have hj2 : j < s.data.size := hj'
    have h3 : s.size - 1 - j < s.size := by omega
    have h4 : j < (Hand.rev s).size := by rw [Hand.rev_size]; exact hj'
    simp only [bt, Int.toNat_natCast, dif_pos h3, dif_pos h4]
    congr 2
    show s.data[s.size - 1 - j] = (s.data.reverse)[j]'(by simpa using hj2)
    rw [Array.getElem_reverse]
    rfl
  rw [e, Hand.strOfNums_bt]
theorem turned_l0 (s : ByteArray) (hs : s.size ≤ 140737488355328) (d : Nat) : ∀ (k i : Nat) (b : List Int), i ≤ s.size → s.size - i = d → d < k → b.length = s.size →
    lacquerref02_turned.l0 k s b (i : Int) = some (strOfNums ((List.range s.size).map fun j => if s.size ≤ i + j then b.getD j 0 else bt s ((s.size - 1 - j : Nat) : Int))) := by
  induction d with
  | zero =>
    intro k i b h1 h2 h3 h4
    obtain ⟨k, rfl⟩ : ∃ m, k = m + 1 := ⟨k - 1, by omega⟩
    simp only [lacquerref02_turned.l0]
    rw [if_neg (by omega)]
    congr 2
    apply List.ext_getElem
    · simp [h4]
    · intro j g1 g2
      have hj : j < s.size := by omega
      simp [show s.size ≤ i + j by omega, List.getD_eq_getElem?_getD, g1]
  | succ d ih =>
    intro k i b h1 h2 h3 h4
    obtain ⟨k, rfl⟩ : ∃ m, k = m + 1 := ⟨k - 1, by omega⟩
    have e1 : wrap64 ((wrap64 ((s.size : Int) - 1)) - (i : Int)) = ((s.size - 1 - i : Nat) : Int) := by unfold wrap64; omega
    have e2 : wrap64 ((i : Int) + 1) = ((i + 1 : Nat) : Int) := by unfold wrap64; omega
    simp only [lacquerref02_turned.l0]
    rw [e1, e2, if_pos (by omega), if_pos (by omega), if_pos (by omega), if_pos (by omega), ih k (i + 1) _ (by omega) (by omega) (by omega) (by simpa using h4)]
    congr 2
    refine List.map_congr_left fun j hj => ?_
    have hj' : j < s.size := by simpa using hj
    rw [Int.toNat_natCast]
    by_cases c1 : s.size ≤ i + j
    · rw [if_pos (by omega), if_pos c1]
      simp [List.getD_eq_getElem?_getD, List.getElem?_set, show ¬ s.size - 1 - i = j by omega]
    · by_cases c2 : j = s.size - 1 - i
      · subst c2
        rw [if_pos (by omega), if_neg c1]
        have : s.size - 1 - (s.size - 1 - i) = i := by omega
        simp [List.getD_eq_getElem?_getD, List.getElem?_set, h4, hj', this]
      · rw [if_neg (by omega), if_neg c1]
theorem turned_ok (s : ByteArray) (hs : s.size ≤ 140737488355328) (k : Nat) (hk : s.size < k) : lacquerref02_turned.f k s = some (Hand.rev s) := by
  unfold lacquerref02_turned.f
  rw [if_pos (by omega), if_pos (by omega)]
  have := turned_l0 s hs s.size k 0 (List.replicate s.size 0) (by omega) (by omega) hk (by simp)
  simp only [Int.toNat_natCast]
  refine this.trans ?_
  rw [← rev_list]
  congr 2
  refine List.map_congr_left fun j hj => ?_
  have hj' : j < s.size := by simpa using hj
  rw [if_neg (by omega)]
theorem awake_ok : lacquerlaw02_awake.f 30 = some true := by decide +kernel
theorem turn_ok (s : ByteArray) (hs : s.size ≤ 140737488355328) : bytes_turn.f s = some (Hand.rev s) := by
  unfold bytes_turn.f
  rw [if_pos (by omega)]
/-- What Le gives. -/
def leR (n w : Int) : ByteArray × Int := if 1 ≤ w ∧ w ≤ 8 ∧ 0 ≤ n ∧ n < 2 ^ (8 * w.toNat) then (strOfNums (leL w.toNat n), 0) else (⟨#[]⟩, 11)
def beR (n w : Int) : ByteArray × Int := if 1 ≤ w ∧ w ≤ 8 ∧ 0 ≤ n ∧ n < 2 ^ (8 * w.toNat) then (strOfNums (leL w.toNat n).reverse, 0) else (⟨#[]⟩, 11)
theorem leR_size (n w : Int) : (leR n w).1.size ≤ 8 := by
  unfold leR
  split
  · rename_i h
    rw [strOfNums_size, leL_length]
    omega
  · simp [ByteArray.size]
theorem beR_rev (n w : Int) : Hand.rev (leR n w).1 = (beR n w).1 ∧ (leR n w).2 = (beR n w).2 := by
  unfold leR beR
  split
  · exact ⟨rev_strOfNums _, rfl⟩
  · exact ⟨by simp [Hand.rev], rfl⟩
theorem rev_rev (s : ByteArray) : Hand.rev (Hand.rev s) = s := by simp [Hand.rev]
theorem Le_ev (n w : Int) (h63 : n < 9223372036854775808) : Ev (fun k => bytes_Le.f k n w) (leR n w) := by
  refine Ev.of (bytes_Le.mono n w) (k := 12) ?_
  unfold leR
  split
  · rename_i h; exact Le_ok n w h63 h
  · rename_i h; exact Le_no n w h63 h
theorem BeR_ev (n w : Int) (h63 : n < 9223372036854775808) : Ev (fun k => lacquerref02_Be.f k n w) (beR n w) := by
  refine Ev.of (lacquerref02_Be.mono n w) (k := 12) ?_
  unfold beR
  split
  · rename_i h; exact BeR_ok n w h63 h
  · rename_i h; exact BeR_no n w h63 h
theorem Be_ev (n w : Int) (h63 : n < 9223372036854775808) : Ev (fun k => bytes_Be.f k n w) (beR n w) := by
  refine Ev.bind (Le_ev n w h63) ?_
  rw [turn_ok _ (by have := leR_size n w; omega), Option.bind_some, (beR_rev n w).1, (beR_rev n w).2]
  exact Ev.now _
theorem LeR_ev (n w : Int) (h63 : n < 9223372036854775808) : Ev (fun k => lacquerref02_Le.f k n w) (leR n w) := by
  refine Ev.bind (BeR_ev n w h63) ?_
  have hb : (beR n w).1.size ≤ 8 := by rw [← (beR_rev n w).1, Hand.rev_size]; exact leR_size n w
  refine Ev.of (k := 10) (fun k => LeO.bind (lacquerref02_turned.mono _ _) (fun _ => LeO.refl _)) ?_
  rw [turned_ok _ (by omega) 10 (by omega), Option.bind_some, ← (beR_rev n w).1, rev_rev, ← (beR_rev n w).2]
theorem awake_ev : Ev (fun k => lacquerlaw02_awake.f k) true := Ev.of lacquerlaw02_awake.mono awake_ok
theorem bound_i64 {n : Int} (h : (Lit.int .i64 n).wf = true) : -9223372036854775808 ≤ n ∧ n < 9223372036854775808 := by
  have hmin : IntKind.i64.min = -9223372036854775808 := rfl
  have hmax : IntKind.i64.max = 9223372036854775807 := rfl
  simp only [Lit.wf, Bool.and_eq_true, decide_eq_true_eq] at h
  omega
end Go.Proofs.Ytfhkhbmpbmjlcaa.Math
