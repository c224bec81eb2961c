/- The plain laws of layer 2: what was laid comes back. -/
import Derived.Test.YtfhkhbmpbmjlcaaMath5
namespace Go.Proofs.Ytfhkhbmpbmjlcaa.Math
open Go.RowKit Go.Proofs.Ytfhkhbmpbmjlcaa.Q Go.Proofs.YtfhkhbmpbmjlcaaW.PrintWords Go.Proofs.YtfhkhbmpbmjlcaaW.PrintLast Go.Proofs.YtfhkhbmpbmjlcaaW.PrintMore
set_option linter.unusedVariables false
set_option linter.unusedSimpArgs false

/-- A number's bytes, the highest first, give the number. -/
theorem fromL_le_list (w : Nat) : ∀ (n : Int) (s : ByteArray), 0 ≤ n → n < 256 ^ w → w ≤ s.size → (∀ i : Nat, i < w → bt s (i : Nat) = ((leL w n).reverse)[i]?.getD 0) → fromL s w = n := by
  induction w with
  | zero => intro n s h0 h1 _ _; simp [fromL]; simp at h1; omega
  | succ w ih =>
    intro n s h0 h1 hw hb
    rw [Int.pow_succ] at h1
    have h2 : n / 256 < 256 ^ w := by omega
    have e := ih (n / 256) s (by omega) h2 (by omega) (fun i hi => by
      rw [hb i (by omega)]
      simp only [leL, List.reverse_cons]
      rw [List.getElem?_append_left (by rw [List.length_reverse, leL_length]; exact hi)])
    have hl := hb w (by omega)
    simp only [leL, List.reverse_cons] at hl
    rw [List.getElem?_append_right (by rw [List.length_reverse, leL_length]; omega)] at hl
    simp [leL_length] at hl
    simp only [fromL]
    rw [e, hl]
    omega
theorem leL_bytes (w : Nat) : ∀ n : Int, ∀ x ∈ leL w n, 0 ≤ x ∧ x < 256 := by
  induction w with
  | zero => intro n x hx; simp [leL] at hx
  | succ w ih =>
    intro n x hx
    simp only [leL, List.mem_cons] at hx
    rcases hx with rfl | hx
    · omega
    · exact ih _ x hx
theorem fb_back {n w : Int} (h63 : n < 9223372036854775808) (h : Valid n w) : fbR (strOfNums (leL w.toNat n).reverse) = n := by
  obtain ⟨h1, h2, h3, h4⟩ := h
  have hz : (strOfNums (leL w.toNat n).reverse).size = w.toNat := by rw [strOfNums_size, List.length_reverse, leL_length]
  have h5 : n < 256 ^ w.toNat := by
    have : (256 : Int) ^ w.toNat = 2 ^ (8 * w.toNat) := by rw [Int.pow_mul]; rfl
    rw [this]; exact h4
  have e : fromL (strOfNums (leL w.toNat n).reverse) w.toNat = n := fromL_le_list w.toNat n _ h3 h5 (by omega) (fun i hi => by
    rw [bt_strOfNums _ (fun x hx => leL_bytes _ _ x (List.mem_reverse.1 hx)) i (by rw [List.length_reverse, leL_length]; exact hi)]
    rw [List.getElem?_eq_getElem (by rw [List.length_reverse, leL_length]; exact hi)]
    rfl)
  unfold fbR
  rw [hz, e, if_neg (by omega), if_neg (by omega)]
theorem bt_append_left (a b : ByteArray) (i : Nat) (h : i < a.size) : bt (a ++ b) (i : Nat) = bt a (i : Nat) := by
  have h1 : i < (a ++ b).size := by rw [ByteArray.size_append]; omega
  simp only [bt, Int.toNat_natCast, dif_pos h, dif_pos h1]
  congr 2
  exact ByteArray.getElem_append_left h
theorem codR_bytes {n : Int} (h0 : 0 ≤ n) (h1 : n < 68719476736) : ∀ x ∈ codR n, 0 ≤ x ∧ x < 256 := by
  intro x hx
  unfold codR at hx
  repeat' split at hx
  all_goals (simp only [List.mem_cons, List.not_mem_nil, or_false] at hx; omega)
theorem unL_step (s : ByteArray) (k : Int) (d i : Nat) (n b : Int) (hi : i < s.size) (hb : bt s (i : Nat) = 128 + b) (h0 : 0 ≤ b) (h1 : b < 64) : unL s k (d + 1) i n = unL s k d (i + 1) (n * 64 + b) := by
  simp only [unL]
  rw [if_neg (by omega), if_pos (by omega)]
  congr 1
  omega
theorem un_back (n : Int) (h0 : 0 ≤ n) (h1 : n < 68719476736) (behind : ByteArray) : unR (strOfNums (codR n) ++ behind) = (n, ((strOfNums (codR n)).size : Int), 0) := by
  have hz : ((strOfNums (codR n)).size : Int) = wideN n := by rw [strOfNums_size, codR_length]
  have hb : ∀ i : Nat, ∀ h : i < (codR n).length, bt (strOfNums (codR n) ++ behind) (i : Nat) = (codR n)[i] := fun i h => by
    rw [bt_append_left _ _ i (by rw [strOfNums_size]; exact h)]
    exact bt_strOfNums _ (codR_bytes h0 h1) i h
  have hs : (strOfNums (codR n)).size ≤ (strOfNums (codR n) ++ behind).size := by rw [ByteArray.size_append]; omega
  rw [strOfNums_size] at hs
  rw [hz]
  generalize hS : strOfNums (codR n) ++ behind = s at *
  clear hS
  have hw : wideN n = wideN n := rfl
  unfold unR
  by_cases c1 : n < 128
  · have e : codR n = [n] := by unfold codR; rw [if_pos c1]
    rw [e] at hs
    have b0 := hb 0 (by rw [e]; simp)
    simp only [e, List.getElem_cons_zero] at b0
    simp at hs b0
    rw [if_neg (by omega), b0, if_pos c1]
    unfold wideN
    rw [if_pos c1]
  by_cases c2 : n < 2048
  · have e : codR n = [192 + n / 64, 128 + n % 64] := by unfold codR; rw [if_neg c1, if_pos c2]
    have ew : wideN n = 2 := by unfold wideN; rw [if_neg c1, if_pos c2]
    rw [e] at hs
    have b0 := hb 0 (by rw [e]; simp)
    have b1 := hb 1 (by rw [e]; simp)
    simp only [e] at b0 b1
    simp at hs b0
    rw [if_neg (by omega), b0, if_neg (by omega), if_neg (by omega)]
    have el : lead (192 + n / 64) = 2 := by unfold lead; rw [if_neg (by omega), if_neg (by omega), if_pos (by omega)]
    have e0 : lead0 (192 + n / 64) = n / 64 := by unfold lead0; rw [if_neg (by omega), if_pos (by omega)]; omega
    rw [el, e0, show ((2 : Int) - 1).toNat = 1 by decide, unL_step s 2 0 1 _ _ (by omega) b1 (by omega) (by omega), show n / 64 * 64 + n % 64 = n by omega]
    unfold unL
    rw [ew, if_pos rfl]
  by_cases c3 : n < 65536
  · have e : codR n = [224 + n / 4096, 128 + n / 64 % 64, 128 + n % 64] := by unfold codR; rw [if_neg c1, if_neg c2, if_pos c3]
    have ew : wideN n = 3 := by unfold wideN; rw [if_neg c1, if_neg c2, if_pos c3]
    rw [e] at hs
    have b0 := hb 0 (by rw [e]; simp)
    have b1 := hb 1 (by rw [e]; simp)
    have b2 := hb 2 (by rw [e]; simp)
    simp only [e] at b0 b1 b2
    simp at hs b0
    rw [if_neg (by omega), b0, if_neg (by omega), if_neg (by omega)]
    have el : lead (224 + n / 4096) = 3 := by unfold lead; rw [if_neg (by omega), if_neg (by omega), if_neg (by omega), if_pos (by omega)]
    have e0 : lead0 (224 + n / 4096) = n / 4096 := by unfold lead0; rw [if_neg (by omega), if_neg (by omega), if_pos (by omega)]; omega
    rw [el, e0, show ((3 : Int) - 1).toNat = 2 by decide, unL_step s 3 1 1 _ _ (by omega) b1 (by omega) (by omega), unL_step s 3 0 2 _ _ (by omega) b2 (by omega) (by omega), show (n / 4096 * 64 + n / 64 % 64) * 64 + n % 64 = n by omega]
    unfold unL
    rw [ew, if_pos rfl]
  by_cases c4 : n < 2097152
  · have e : codR n = [240 + n / 262144, 128 + n / 4096 % 64, 128 + n / 64 % 64, 128 + n % 64] := by unfold codR; rw [if_neg c1, if_neg c2, if_neg c3, if_pos c4]
    have ew : wideN n = 4 := by unfold wideN; rw [if_neg c1, if_neg c2, if_neg c3, if_pos c4]
    rw [e] at hs
    have b0 := hb 0 (by rw [e]; simp)
    have b1 := hb 1 (by rw [e]; simp)
    have b2 := hb 2 (by rw [e]; simp)
    have b3 := hb 3 (by rw [e]; simp)
    simp only [e] at b0 b1 b2 b3
    simp at hs b0
    rw [if_neg (by omega), b0, if_neg (by omega), if_neg (by omega)]
    have el : lead (240 + n / 262144) = 4 := by unfold lead; rw [if_neg (by omega), if_neg (by omega), if_neg (by omega), if_neg (by omega), if_pos (by omega)]
    have e0 : lead0 (240 + n / 262144) = n / 262144 := by unfold lead0; rw [if_neg (by omega), if_neg (by omega), if_neg (by omega), if_pos (by omega)]; omega
    rw [el, e0, show ((4 : Int) - 1).toNat = 3 by decide, unL_step s 4 2 1 _ _ (by omega) b1 (by omega) (by omega), unL_step s 4 1 2 _ _ (by omega) b2 (by omega) (by omega), unL_step s 4 0 3 _ _ (by omega) b3 (by omega) (by omega), show ((n / 262144 * 64 + n / 4096 % 64) * 64 + n / 64 % 64) * 64 + n % 64 = n by omega]
    unfold unL
    rw [ew, if_pos rfl]
  by_cases c5 : n < 67108864
  · have e : codR n = [248 + n / 16777216, 128 + n / 262144 % 64, 128 + n / 4096 % 64, 128 + n / 64 % 64, 128 + n % 64] := by unfold codR; rw [if_neg c1, if_neg c2, if_neg c3, if_neg c4, if_pos c5]
    have ew : wideN n = 5 := by unfold wideN; rw [if_neg c1, if_neg c2, if_neg c3, if_neg c4, if_pos c5]
    rw [e] at hs
    have b0 := hb 0 (by rw [e]; simp)
    have b1 := hb 1 (by rw [e]; simp)
    have b2 := hb 2 (by rw [e]; simp)
    have b3 := hb 3 (by rw [e]; simp)
    have b4 := hb 4 (by rw [e]; simp)
    simp only [e] at b0 b1 b2 b3 b4
    simp at hs b0
    rw [if_neg (by omega), b0, if_neg (by omega), if_neg (by omega)]
    have el : lead (248 + n / 16777216) = 5 := by unfold lead; rw [if_neg (by omega), if_neg (by omega), if_neg (by omega), if_neg (by omega), if_neg (by omega), if_pos (by omega)]
    have e0 : lead0 (248 + n / 16777216) = n / 16777216 := by unfold lead0; rw [if_neg (by omega), if_neg (by omega), if_neg (by omega), if_neg (by omega), if_pos (by omega)]; omega
    rw [el, e0, show ((5 : Int) - 1).toNat = 4 by decide, unL_step s 5 3 1 _ _ (by omega) b1 (by omega) (by omega), unL_step s 5 2 2 _ _ (by omega) b2 (by omega) (by omega), unL_step s 5 1 3 _ _ (by omega) b3 (by omega) (by omega), unL_step s 5 0 4 _ _ (by omega) b4 (by omega) (by omega), show (((n / 16777216 * 64 + n / 262144 % 64) * 64 + n / 4096 % 64) * 64 + n / 64 % 64) * 64 + n % 64 = n by omega]
    unfold unL
    rw [ew, if_pos rfl]
  by_cases c6 : n < 2147483648
  · have e : codR n = [252 + n / 1073741824, 128 + n / 16777216 % 64, 128 + n / 262144 % 64, 128 + n / 4096 % 64, 128 + n / 64 % 64, 128 + n % 64] := by unfold codR; rw [if_neg c1, if_neg c2, if_neg c3, if_neg c4, if_neg c5, if_pos c6]
    have ew : wideN n = 6 := by unfold wideN; rw [if_neg c1, if_neg c2, if_neg c3, if_neg c4, if_neg c5, if_pos c6]
    rw [e] at hs
    have b0 := hb 0 (by rw [e]; simp)
    have b1 := hb 1 (by rw [e]; simp)
    have b2 := hb 2 (by rw [e]; simp)
    have b3 := hb 3 (by rw [e]; simp)
    have b4 := hb 4 (by rw [e]; simp)
    have b5 := hb 5 (by rw [e]; simp)
    simp only [e] at b0 b1 b2 b3 b4 b5
    simp at hs b0
    rw [if_neg (by omega), b0, if_neg (by omega), if_neg (by omega)]
    have el : lead (252 + n / 1073741824) = 6 := by unfold lead; rw [if_neg (by omega), if_neg (by omega), if_neg (by omega), if_neg (by omega), if_neg (by omega), if_neg (by omega), if_pos (by omega)]
    have e0 : lead0 (252 + n / 1073741824) = n / 1073741824 := by unfold lead0; rw [if_neg (by omega), if_neg (by omega), if_neg (by omega), if_neg (by omega), if_neg (by omega), if_pos (by omega)]; omega
    rw [el, e0, show ((6 : Int) - 1).toNat = 5 by decide, unL_step s 6 4 1 _ _ (by omega) b1 (by omega) (by omega), unL_step s 6 3 2 _ _ (by omega) b2 (by omega) (by omega), unL_step s 6 2 3 _ _ (by omega) b3 (by omega) (by omega), unL_step s 6 1 4 _ _ (by omega) b4 (by omega) (by omega), unL_step s 6 0 5 _ _ (by omega) b5 (by omega) (by omega), show ((((n / 1073741824 * 64 + n / 16777216 % 64) * 64 + n / 262144 % 64) * 64 + n / 4096 % 64) * 64 + n / 64 % 64) * 64 + n % 64 = n by omega]
    unfold unL
    rw [ew, if_pos rfl]
  · have e : codR n = [254, 128 + n / 1073741824 % 64, 128 + n / 16777216 % 64, 128 + n / 262144 % 64, 128 + n / 4096 % 64, 128 + n / 64 % 64, 128 + n % 64] := by unfold codR; rw [if_neg c1, if_neg c2, if_neg c3, if_neg c4, if_neg c5, if_neg c6]
    have ew : wideN n = 7 := by unfold wideN; rw [if_neg c1, if_neg c2, if_neg c3, if_neg c4, if_neg c5, if_neg c6]
    rw [e] at hs
    have b0 := hb 0 (by rw [e]; simp)
    have b1 := hb 1 (by rw [e]; simp)
    have b2 := hb 2 (by rw [e]; simp)
    have b3 := hb 3 (by rw [e]; simp)
    have b4 := hb 4 (by rw [e]; simp)
    have b5 := hb 5 (by rw [e]; simp)
    have b6 := hb 6 (by rw [e]; simp)
    simp only [e] at b0 b1 b2 b3 b4 b5 b6
    simp at hs b0
    rw [if_neg (by omega), b0, if_neg (by omega), if_neg (by omega)]
    have el : lead 254 = 7 := by decide
    have e0 : lead0 254 = 0 := by decide
    rw [el, e0, show ((7 : Int) - 1).toNat = 6 by decide, unL_step s 7 5 1 _ _ (by omega) b1 (by omega) (by omega), unL_step s 7 4 2 _ _ (by omega) b2 (by omega) (by omega), unL_step s 7 3 3 _ _ (by omega) b3 (by omega) (by omega), unL_step s 7 2 4 _ _ (by omega) b4 (by omega) (by omega), unL_step s 7 1 5 _ _ (by omega) b5 (by omega) (by omega), unL_step s 7 0 6 _ _ (by omega) b6 (by omega) (by omega), show (((((0 * 64 + n / 1073741824 % 64) * 64 + n / 16777216 % 64) * 64 + n / 262144 % 64) * 64 + n / 4096 % 64) * 64 + n / 64 % 64) * 64 + n % 64 = n by omega]
    unfold unL
    rw [ew, if_pos rfl]
theorem high_rate {n : Int} (h1 : 1 ≤ n) (h2 : n ≤ 655350) : highN (strOfNums (rateL n)) / 2 ^ (31 - Nat.log2 n.toNat) = n := by
  obtain ⟨h3, h4, h5⟩ := log_facts h1 h2
  obtain ⟨u1, u2⟩ := u_range h1 h2
  have hb := fun i hi => bt_strOfNums (rateL n) (rateL_bytes h1 h2) i (by rw [rateL_length]; exact hi)
  have b2 := hb 2 (by omega)
  have b3 := hb 3 (by omega)
  have b4 := hb 4 (by omega)
  have b5 := hb 5 (by omega)
  have eh : highN (strOfNums (rateL n)) = n * 2 ^ (63 - Nat.log2 n.toNat) / 4294967296 := by
    unfold highN
    rw [show (2 : Int) = ((2 : Nat) : Int) from rfl, show (3 : Int) = ((3 : Nat) : Int) from rfl, show (4 : Int) = ((4 : Nat) : Int) from rfl, show (5 : Int) = ((5 : Nat) : Int) from rfl, b2, b3, b4, b5]
    simp [rateL, leL, rateTail]
    generalize n * 2 ^ (63 - Nat.log2 n.toNat) = u at *
    omega
  rw [eh]
  generalize Nat.log2 n.toNat = L at *
  have : n * 2 ^ (63 - L) = n * 2 ^ (31 - L) * 4294967296 := by
    rw [Int.mul_assoc]
    congr 1
    rw [show 63 - L = (31 - L) + 32 by omega, Int.pow_add]
    rfl
  rw [this, Int.mul_ediv_cancel _ (by decide), Int.mul_ediv_cancel]
  have hp : (0 : Int) < 2 ^ (31 - L) := Int.pow_pos (by decide)
  omega
theorem rate_back {n : Int} (h1 : 1 ≤ n) (h2 : n ≤ 655350) : frR (strOfNums (rateL n)) = (n, 0) := by
  obtain ⟨h3, h4, h5⟩ := log_facts h1 h2
  have hh := head_rate h1 h2
  have hx := high_rate h1 h2
  have e : headN (strOfNums (rateL n)) - 16383 = (Nat.log2 n.toNat : Int) := by omega
  unfold frR
  rw [if_pos (by rw [strOfNums_size, rateL_length]), e, if_pos (by omega), Int.toNat_natCast, hx]
  have hf : rateF n = (strOfNums (rateL n), 0) := by unfold rateF; rw [if_pos ⟨h1, h2⟩]
  rw [hf, if_pos ⟨rfl, rfl⟩]
end Go.Proofs.Ytfhkhbmpbmjlcaa.Math
