/- The plain laws of layer 2: rates: what Rate and its reference come to. -/
import Derived.Test.YtfhkhbmpbmjlcaaMath2
namespace Go.Proofs.Ytfhkhbmpbmjlcaa.Math
open Go.RowKit Go.Proofs.Ytfhkhbmpbmjlcaa.Q Go.Proofs.YtfhkhbmpbmjlcaaW.PrintWords Go.Proofs.YtfhkhbmpbmjlcaaW.PrintLast Go.Proofs.YtfhkhbmpbmjlcaaW.PrintMore
set_option linter.unusedVariables false
set_option linter.unusedSimpArgs false

theorem strOfNums_append (a b : List Int) : strOfNums a ++ strOfNums b = strOfNums (a ++ b) := by
  apply ByteArray.ext
  simp [strOfNums]
theorem bytesOf_strOfNums (a : List Int) (h : ∀ x ∈ a, 0 ≤ x ∧ x < 256) : bytesOf (strOfNums a) = a := by
  unfold bytesOf
  rw [strOfNums_data, List.map_map]
  conv => rhs; rw [← List.map_id a]
  refine List.map_congr_left fun x hx => ?_
  have := h x hx
  simp [UInt8.toNat_ofNat']
  omega
/-- The ten bytes of a rate. -/
def rateL (n : Int) : List Int := (leL 2 (16383 + (Nat.log2 n.toNat : Int))).reverse ++ rateTail (n * 2 ^ (63 - Nat.log2 n.toNat)) 8
def rateF (n : Int) : ByteArray × Int := if 1 ≤ n ∧ n ≤ 655350 then (strOfNums (rateL n), 0) else (⟨#[]⟩, 11)
theorem log_facts {n : Int} (h1 : 1 ≤ n) (h2 : n ≤ 655350) : Nat.log2 n.toNat < 20 ∧ (2 : Int) ^ Nat.log2 n.toNat ≤ n ∧ n < 2 ^ (Nat.log2 n.toNat + 1) := by
  have hn0 : n.toNat ≠ 0 := by omega
  have hl1 := Nat.log2_self_le hn0
  have hl2 := Nat.lt_log2_self (n := n.toNat)
  have hl3 : Nat.log2 n.toNat < 20 := by
    have : 2 ^ Nat.log2 n.toNat < 2 ^ 20 := by omega
    exact (Nat.pow_lt_pow_iff_right (by omega)).1 this
  refine ⟨hl3, ?_, ?_⟩
  · have h4 : ((2 ^ Nat.log2 n.toNat : Nat) : Int) ≤ n := by omega
    simpa using h4
  · have h4 : n < ((2 ^ (Nat.log2 n.toNat + 1) : Nat) : Int) := by omega
    simpa using h4
theorem u_range {n : Int} (h1 : 1 ≤ n) (h2 : n ≤ 655350) : 9223372036854775808 ≤ n * 2 ^ (63 - Nat.log2 n.toNat) ∧ n * 2 ^ (63 - Nat.log2 n.toNat) < 18446744073709551616 := by
  obtain ⟨h3, h4, h5⟩ := log_facts h1 h2
  generalize Nat.log2 n.toNat = L at *
  have e1 : (2 : Int) ^ L * 2 ^ (63 - L) = 9223372036854775808 := by
    rw [← Int.pow_add, show L + (63 - L) = 63 by omega]; rfl
  have e2 : (2 : Int) ^ (L + 1) * 2 ^ (63 - L) = 18446744073709551616 := by
    rw [← Int.pow_add, show L + 1 + (63 - L) = 64 by omega]; rfl
  have hp : (0 : Int) < 2 ^ (63 - L) := Int.pow_pos (by decide)
  constructor
  · rw [← e1]; exact Int.mul_le_mul_of_nonneg_right h4 (by omega)
  · rw [← e2]; exact Int.mul_lt_mul_of_pos_right h5 hp
theorem RateR_ev (n : Int) : Ev (fun k => lacquerref02_Rate.f k n) (rateF n) := by
  unfold lacquerref02_Rate.f rateF
  by_cases h : 1 ≤ n ∧ n ≤ 655350
  · simp only [if_pos h]
    obtain ⟨h3, h4, h5⟩ := log_facts h.1 h.2
    obtain ⟨u1, u2⟩ := u_range h.1 h.2
    refine Ev.bind (BeR_ev _ 2 (by omega)) ?_
    have hb : beR (16383 + (Nat.log2 n.toNat : Int)) 2 = (strOfNums (leL 2 (16383 + (Nat.log2 n.toNat : Int))).reverse, 0) := by
      unfold beR
      rw [if_pos ⟨by decide, by decide, by omega, by simp; omega⟩]
      rfl
    rw [hb]
    simp only [strOfNums_size, List.length_reverse, leL_length]
    rw [if_pos (by omega), bytesOf_strOfNums _ (by simp [leL]; omega)]
    have hw : IntKind.u64.wrap (n * 2 ^ (63 - Nat.log2 n.toNat)) = n * 2 ^ (63 - Nat.log2 n.toNat) := by
      simp only [IntKind.wrap, IntKind.bits, IntKind.signed]
      simp
      omega
    rw [hw]
    exact Ev.now _
  · simp only [if_neg h]
    exact Ev.now _
theorem bitLen_log (x : Nat) (h0 : x ≠ 0) (h : x < 2 ^ 64) : Lib.bitLen x = Nat.log2 x + 1 := by
  have h1 := Nat.log2_self_le h0
  have h2 := Nat.lt_log2_self (n := x)
  have h3 : x / 2 ^ Nat.log2 x = 1 := by
    apply Nat.div_eq_of_lt_le
    · simpa using h1
    · rw [Nat.pow_succ] at h2; omega
  rw [Lib.bitLen_shift _ x h1 h, h3]
  have : Lib.bitLen 1 = 1 := by decide
  omega
theorem and32 (x : Int) (h0 : 0 ≤ x) (h1 : x < 18446744073709551616) : Go.bits .and .u64 x 4294967295 = x % 4294967296 := by
  have := bits_mask .u64 64 (by decide) (fun n h0 h1 => by simp only [IntKind.wrap, IntKind.bits, IntKind.signed]; simp; omega) 32 (by decide) x h0 (by simpa using h1)
  simpa using this
theorem be4_ok (k : Nat) (n : Int) (h0 : 0 ≤ n) (h1 : n < 4294967296) : Ev (fun k => bytes_Be.f k n 4) (strOfNums (leL 4 n).reverse, 0) := by
  have := Be_ev n 4 (by omega)
  unfold beR at this
  rw [if_pos ⟨by decide, by decide, h0, by simpa using h1⟩] at this
  exact this
theorem be2_ok (n : Int) (h0 : 0 ≤ n) (h1 : n < 65536) : Ev (fun k => bytes_Be.f k n 2) (strOfNums (leL 2 n).reverse, 0) := by
  have := Be_ev n 2 (by omega)
  unfold beR at this
  rw [if_pos ⟨by decide, by decide, h0, by simpa using h1⟩] at this
  exact this
theorem rate_tail (u : Int) (h0 : 0 ≤ u) (h1 : u < 18446744073709551616) : rateTail u 8 = (leL 4 (u / 4294967296)).reverse ++ (leL 4 (u % 4294967296)).reverse := by
  simp only [rateTail, leL]
  simp
  omega
theorem Rate_ev (n : Int) (hn : -9223372036854775808 ≤ n ∧ n < 9223372036854775808) : Ev (fun k => bytes_Rate.f k n) (rateF n) := by
  unfold rateF
  by_cases h : 1 ≤ n ∧ n ≤ 655350
  · rw [if_pos h]
    obtain ⟨h3, h4, h5⟩ := log_facts h.1 h.2
    obtain ⟨u1, u2⟩ := u_range h.1 h.2
    have hw : IntKind.u64.wrap n = n := by
      simp only [IntKind.wrap, IntKind.bits, IntKind.signed]
      simp
      omega
    have hl : bits_Len.f n = some ((Nat.log2 n.toNat : Int) + 1) := by
      unfold bits_Len.f
      rw [if_pos (by omega), bitLen_log _ (by omega) (by omega)]
      simp
    have ew1 : wrap64 ((Nat.log2 n.toNat : Int) + 1 - 1) = (Nat.log2 n.toNat : Int) := by unfold wrap64; omega
    have ew2 : wrap64 (63 - (Nat.log2 n.toNat : Int)) = ((63 - Nat.log2 n.toNat : Nat) : Int) := by unfold wrap64; omega
    have ew3 : wrap64 (16383 + (Nat.log2 n.toNat : Int)) = 16383 + (Nat.log2 n.toNat : Int) := by unfold wrap64; omega
    have esh : shl .u64 n ((63 - Nat.log2 n.toNat : Nat) : Int) = n * 2 ^ (63 - Nat.log2 n.toNat) := by
      unfold shl
      rw [Int.toNat_natCast, Nat.min_eq_left (by simp [IntKind.bits]; omega)]
      simp only [IntKind.wrap, IntKind.bits, IntKind.signed]
      simp
      omega
    refine Ev.congr (f := fun k => bytes_Rate.j0 k n false) (fun k => by simp [bytes_Rate.f, show ¬ n < 1 by omega, show ¬ 655350 < n by omega]) ?_
    refine Ev.step (fun k => bytes_Rate.j0.eq_2 _ _ _) ?_
    simp only [hw, hl, Option.bind_some, ew1, ew2, ew3, esh]
    generalize hu : n * 2 ^ (63 - Nat.log2 n.toNat) = u at *
    have ew4 : wrap64 (u / 4294967296) = u / 4294967296 := by unfold wrap64; omega
    have ew5 : wrap64 (u % 4294967296) = u % 4294967296 := by unfold wrap64; omega
    have hp : (0 : Int) ≤ ((63 - Nat.log2 n.toNat : Nat) : Int) := by omega
    simp only [Bool.false_eq_true, if_false, if_pos hp, and32 u (by omega) (by omega), ew4, ew5]
    refine Ev.bind (be2_ok _ (by omega) (by omega)) ?_
    refine Ev.bind (be4_ok 0 _ (by omega) (by omega)) ?_
    refine Ev.bind (be4_ok 0 _ (by omega) (by omega)) ?_
    simp only [strOfNums_append, strOfNums_size, List.length_append, List.length_reverse, leL_length]
    rw [if_pos (by decide), if_pos (by decide)]
    have : rateL n = (leL 2 (16383 + (Nat.log2 n.toNat : Int))).reverse ++ (leL 4 (u / 4294967296)).reverse ++ (leL 4 (u % 4294967296)).reverse := by
      unfold rateL
      rw [hu, rate_tail u (by omega) (by omega), List.append_assoc]
    rw [this]
    exact Ev.now _
  · rw [if_neg h]
    refine Ev.of (bytes_Rate.mono n) (k := 2) ?_
    by_cases c : n < 1
    · simp [bytes_Rate.f, bytes_Rate.j0, c]
    · simp [bytes_Rate.f, bytes_Rate.j0, c, show 655350 < n by omega]
/-- The number of the first bytes of a text, the highest first. -/
def fromL (s : ByteArray) : Nat → Int
  | 0 => 0
  | i + 1 => fromL s i * 256 + bt s (i : Nat)
def fbR (s : ByteArray) : Int := if 8 < s.size then -1 else if 9223372036854775808 ≤ fromL s s.size then -1 else fromL s s.size
theorem fromL_range (s : ByteArray) : ∀ i, 0 ≤ fromL s i ∧ fromL s i < 256 ^ i
  | 0 => by simp [fromL]
  | i + 1 => by
    have := fromL_range s i
    have hb := bt_range s (i : Nat)
    simp only [fromL, Int.pow_succ]
    omega
theorem fromL_lt (s : ByteArray) (i : Nat) (h : i < 8) : 0 ≤ fromL s i ∧ fromL s i < 72057594037927936 := by
  have h1 := fromL_range s i
  have h2 : (256 : Int) ^ i ≤ 256 ^ 7 := by
    have : (256 : Nat) ^ i ≤ 256 ^ 7 := Nat.pow_le_pow_right (by omega) (by omega)
    have := Int.ofNat_le.2 this
    simpa using this
  have h3 : (256 : Int) ^ 7 = 72057594037927936 := by decide
  omega
theorem fromL_le (s : ByteArray) (i : Nat) (h : i ≤ 8) : 0 ≤ fromL s i ∧ fromL s i < 18446744073709551616 := by
  rcases i with _ | i
  · simp [fromL]
  · have := fromL_lt s i (by omega)
    have hb := bt_range s (i : Nat)
    simp only [fromL]
    omega
theorem or_u64 (x y : Int) (h0 : 0 ≤ x) (h1 : x < 72057594037927936) (h2 : 0 ≤ y) (h3 : y ≤ 255) : Go.bits .or .u64 (IntKind.u64.wrap (x * 256)) (IntKind.u64.wrap y) = x * 256 + y := by
  have e1 : IntKind.u64.wrap (x * 256) = x * 256 := by simp only [IntKind.wrap, IntKind.bits, IntKind.signed]; simp; omega
  have e2 : IntKind.u64.wrap y = y := by simp only [IntKind.wrap, IntKind.bits, IntKind.signed]; simp; omega
  rw [e1, e2]
  exact bits_join .u64 64 (by decide) (fun n h0 h1 => by simp only [IntKind.wrap, IntKind.bits, IntKind.signed]; simp; omega) 8 _ _ (by omega) (by simp) (by simp; omega) h2 (by simp; omega) (by simp; omega)
theorem FromBe_l0 (s : ByteArray) (hs : s.size ≤ 8) (d : Nat) : ∀ (k i : Nat), i ≤ s.size → s.size - i = d → d < k →
    bytes_FromBe.l0 k s (fromL s i) (s.size : Int) (i : Int) = some (fbR s) := by
  induction d with
  | zero =>
    intro k i h1 h2 h3
    obtain ⟨k, rfl⟩ : ∃ m, k = m + 1 := ⟨k - 1, by omega⟩
    obtain rfl : i = s.size := by omega
    simp only [bytes_FromBe.l0]
    rw [if_neg (by omega)]
    have := fromL_le s s.size hs
    unfold fbR
    rw [if_neg (show ¬ 8 < s.size by omega)]
    by_cases c : 9223372036854775808 ≤ fromL s s.size
    · rw [if_pos c, if_pos c]
    · rw [if_neg c, if_neg c]
      congr 1
      unfold wrap64
      omega
  | succ d ih =>
    intro k i h1 h2 h3
    obtain ⟨k, rfl⟩ : ∃ m, k = m + 1 := ⟨k - 1, by omega⟩
    have hl := fromL_lt s i (by omega)
    have hb := bt_range s (i : Nat)
    simp only [bytes_FromBe.l0]
    rw [if_pos (by omega), if_pos (by omega), if_pos (by omega), or_u64 _ _ hl.1 hl.2 hb.1 hb.2, show wrap64 ((i : Int) + 1) = ((i + 1 : Nat) : Int) by unfold wrap64; omega]
    exact ih k (i + 1) (by omega) (by omega) (by omega)
theorem FromBe_ev (s : ByteArray) : Ev (fun k => bytes_FromBe.f k s) (fbR s) := by
  refine Ev.of (bytes_FromBe.mono s) (k := 9) ?_
  unfold bytes_FromBe.f
  by_cases h : s.size ≤ 8
  · rw [if_neg (by omega)]
    exact FromBe_l0 s h s.size 9 0 (by omega) (by omega) (by omega)
  · rw [if_pos (by omega)]
    unfold fbR
    rw [if_pos (by omega)]
theorem FromBeR_l0 (s : ByteArray) (hs : s.size ≤ 8) (hs8 : fromL s s.size < 9223372036854775808) (d : Nat) : ∀ (k i : Nat), i ≤ s.size → s.size - i = d → d < k →
    lacquerref02_FromBe.l0 k s (fromL s i) (i : Int) = some (fromL s s.size) := by
  induction d with
  | zero =>
    intro k i h1 h2 h3
    obtain ⟨k, rfl⟩ : ∃ m, k = m + 1 := ⟨k - 1, by omega⟩
    obtain rfl : i = s.size := by omega
    simp only [lacquerref02_FromBe.l0]
    rw [if_neg (by omega)]
  | succ d ih =>
    intro k i h1 h2 h3
    obtain ⟨k, rfl⟩ : ∃ m, k = m + 1 := ⟨k - 1, by omega⟩
    have hl := fromL_lt s i (by omega)
    have hb := bt_range s (i : Nat)
    have hn : fromL s (i + 1) < 9223372036854775808 := by
      by_cases c : i + 1 = s.size
      · rw [c]; exact hs8
      · have := fromL_lt s (i + 1) (by omega); omega
    simp only [fromL] at hn
    have e : wrap64 (wrap64 (fromL s i * 256) + wrap64 (bt s (i : Nat))) = fromL s (i + 1) := by
      simp only [fromL]
      unfold wrap64
      omega
    simp only [lacquerref02_FromBe.l0]
    rw [if_pos (by omega), if_pos (by omega), e, show wrap64 ((i : Int) + 1) = ((i + 1 : Nat) : Int) by unfold wrap64; omega]
    exact ih k (i + 1) (by omega) (by omega) (by omega)
theorem fromL_head (s : ByteArray) : ∀ i, 1 ≤ i → bt s 0 * 256 ^ (i - 1) ≤ fromL s i ∧ fromL s i < (bt s 0 + 1) * 256 ^ (i - 1)
  | 0, h => by omega
  | 1, _ => by simp [fromL]; omega
  | i + 2, _ => by
    have := fromL_head s (i + 1) (by omega)
    have hb := bt_range s ((i + 1 : Nat) : Int)
    have e : i + 2 - 1 = (i + 1 - 1) + 1 := by omega
    rw [e, Int.pow_succ, ← Int.mul_assoc, ← Int.mul_assoc]
    have e2 : fromL s (i + 2) = fromL s (i + 1) * 256 + bt s ((i + 1 : Nat) : Int) := rfl
    omega
theorem FromBeR_ev (s : ByteArray) : Ev (fun k => lacquerref02_FromBe.f k s) (fbR s) := by
  refine Ev.of (lacquerref02_FromBe.mono s) (k := 11) ?_
  unfold lacquerref02_FromBe.f fbR
  by_cases h : 8 < s.size
  · rw [if_pos (by omega), if_pos h]
    simp [lacquerref02_FromBe.j0]
  · rw [if_neg (by omega), if_neg h]
    by_cases h8 : s.size = 8
    · have hh := fromL_head s 8 (by omega)
      have e : (256 : Int) ^ (8 - 1) = 72057594037927936 := by decide
      rw [e] at hh
      rw [if_pos (by omega), if_pos (by omega)]
      by_cases c : bt s 0 > 127
      · rw [h8, if_pos (by omega), decide_eq_true c]
        simp [lacquerref02_FromBe.j0]
      · rw [if_neg (by rw [h8]; omega), decide_eq_false c]
        simp only [lacquerref02_FromBe.j0]
        rw [if_neg (by decide)]
        exact FromBeR_l0 s (by omega) (by rw [h8]; omega) s.size 10 0 (by omega) (by omega) (by omega)
    · have hl : fromL s s.size < 9223372036854775808 := by have := fromL_lt s s.size (by omega); omega
      rw [if_neg (by omega), if_neg (by omega)]
      simp only [lacquerref02_FromBe.j0]
      rw [if_neg (by decide)]
      exact FromBeR_l0 s (by omega) hl s.size 10 0 (by omega) (by omega) (by omega)
theorem FromLe_ev (s : ByteArray) (hs : s.size ≤ 140737488355328) : Ev (fun k => bytes_FromLe.f k s) (fbR (Hand.rev s)) := by
  refine Ev.congr (f := fun k => (bytes_FromBe.f k (Hand.rev s)).bind fun t => some t) (fun k => by simp only [bytes_FromLe.f, turn_ok s hs, Option.bind_some]) ?_
  exact Ev.bind (FromBe_ev _) (Ev.now _)
theorem FromLeR_ev (s : ByteArray) (hs : s.size ≤ 140737488355328) : Ev (fun k => lacquerref02_FromLe.f k s) (fbR (Hand.rev s)) := by
  refine Ev.bind (a := Hand.rev s) (Ev.of (lacquerref02_turned.mono s) (turned_ok s hs (s.size + 1) (by omega))) ?_
  exact Ev.bind (FromBeR_ev _) (Ev.now _)
end Go.Proofs.Ytfhkhbmpbmjlcaa.Math
