/- Texts of this claim's proof, laid behind each other by a program of ours, without what the proof does not reach: Numbers in bytes (layer 02's plain laws, over this layer's printed functions); The plain law of layer 13: which bodies may be (tracks, pictures); The plain law of layer 13: pictures, and which blocks may be; The plain law of layer 13: which blocks may be; a text as blocks; The plain law of layer 13: awake; which blocks may be; The plain law of layer 13: a text as blocks; The plain law of layer 13: two lists of blocks; MetaParses -/
import Derived.Test.YtgihacaegmpggaaPrs1
import Derived.Test.YtgihacaegmpggaaPrs2
import Derived.Test.YtgihacaegmpggaaPrs3
import Derived.Test.YtgihacaegmpggaaPrs4
import Derived.Test.YtgihacaegmpggaaPrs5
/- Numbers in bytes (layer 02's plain laws, over this layer's printed functions). -/
namespace Go.Proofs.Ytgihacaegmpggaa.Be
open Go.RowKit Go.Proofs.Ytgihacaegmpggaa Go.Proofs.Ytgihacaegmpggaa.R Go.Proofs.YtgihacaegmpggaaW.PrintWords Go.Proofs.YtgihacaegmpggaaW.PrintLast Go.Proofs.YtgihacaegmpggaaW.PrintMore
set_option linter.unusedVariables false
set_option linter.unusedSimpArgs false

/-- The number of the first bytes of a text, the highest first. -/
def fromL (s : ByteArray) : Nat → Int
  | 0 => 0
  | i + 1 => fromL s i * 256 + bt s (i : Nat)
def fbR (s : ByteArray) : Int := if 8 < s.size then -1 else if 9223372036854775808 ≤ fromL s s.size then -1 else fromL s s.size
theorem fromL_range (s : ByteArray) : ∀ i, 0 ≤ fromL s i ∧ fromL s i < 256 ^ i
  | 0 => by simp [fromL]
  | i + 1 => by
    have := fromL_range s i
    have hb := bt_range s (i : Nat)
    simp only [fromL, Int.pow_succ]
    omega
theorem fromL_lt (s : ByteArray) (i : Nat) (h : i < 8) : 0 ≤ fromL s i ∧ fromL s i < 72057594037927936 := by
  have h1 := fromL_range s i
  have h2 : (256 : Int) ^ i ≤ 256 ^ 7 := by
    have : (256 : Nat) ^ i ≤ 256 ^ 7 := Nat.pow_le_pow_right (by omega) (by omega)
    have := Int.ofNat_le.2 this
    simpa using this
  have h3 : (256 : Int) ^ 7 = 72057594037927936 := by decide
  omega
theorem fromL_le (s : ByteArray) (i : Nat) (h : i ≤ 8) : 0 ≤ fromL s i ∧ fromL s i < 18446744073709551616 := by
  rcases i with _ | i
  · simp [fromL]
  · have := fromL_lt s i (by omega)
    have hb := bt_range s (i : Nat)
    simp only [fromL]
    omega
theorem or_u64 (x y : Int) (h0 : 0 ≤ x) (h1 : x < 72057594037927936) (h2 : 0 ≤ y) (h3 : y ≤ 255) : Go.bits .or .u64 (IntKind.u64.wrap (x * 256)) (IntKind.u64.wrap y) = x * 256 + y := by
  have e1 : IntKind.u64.wrap (x * 256) = x * 256 := by simp only [IntKind.wrap, IntKind.bits, IntKind.signed]; simp; omega
  have e2 : IntKind.u64.wrap y = y := by simp only [IntKind.wrap, IntKind.bits, IntKind.signed]; simp; omega
  rw [e1, e2]
  exact bits_join .u64 64 (by decide) (fun n h0 h1 => by simp only [IntKind.wrap, IntKind.bits, IntKind.signed]; simp; omega) 8 _ _ (by omega) (by simp) (by simp; omega) h2 (by simp; omega) (by simp; omega)
theorem FromBe_l0 (s : ByteArray) (hs : s.size ≤ 8) (d : Nat) : ∀ (k i : Nat), i ≤ s.size → s.size - i = d → d < k →
    bytes_FromBe.l0 k s (fromL s i) (s.size : Int) (i : Int) = some (fbR s) := by
  induction d with
  | zero =>
    intro k i h1 h2 h3
    obtain ⟨k, rfl⟩ : ∃ m, k = m + 1 := ⟨k - 1, by omega⟩
    obtain rfl : i = s.size := by omega
    simp only [bytes_FromBe.l0]
    rw [if_neg (by omega)]
    have := fromL_le s s.size hs
    unfold fbR
    rw [if_neg (show ¬ 8 < s.size by omega)]
    by_cases c : 9223372036854775808 ≤ fromL s s.size
    · rw [if_pos c, if_pos c]
    · rw [if_neg c, if_neg c]
      congr 1
      unfold wrap64
      omega
  | succ d ih =>
    intro k i h1 h2 h3
    obtain ⟨k, rfl⟩ : ∃ m, k = m + 1 := ⟨k - 1, by omega⟩
    have hl := fromL_lt s i (by omega)
    have hb := bt_range s (i : Nat)
    simp only [bytes_FromBe.l0]
    rw [if_pos (by omega), if_pos (by omega), if_pos (by omega), or_u64 _ _ hl.1 hl.2 hb.1 hb.2, show wrap64 ((i : Int) + 1) = ((i + 1 : Nat) : Int) by unfold wrap64; omega]
    exact ih k (i + 1) (by omega) (by omega) (by omega)
theorem FromBe_ev (s : ByteArray) : Ev (fun k => bytes_FromBe.f k s) (fbR s) := by
  refine Ev.of (bytes_FromBe.mono s) (k := 9) ?_
  unfold bytes_FromBe.f
  by_cases h : s.size ≤ 8
  · rw [if_neg (by omega)]
    exact FromBe_l0 s h s.size 9 0 (by omega) (by omega) (by omega)
  · rw [if_pos (by omega)]
    unfold fbR
    rw [if_pos (by omega)]
theorem and_mask (x : Int) (i : Nat) (hi : i < 63) : Go.bits .and .i64 x (2 ^ i - 1 : Nat) = x % 2 ^ i := by
  have hlt : (2 : Nat) ^ i - 1 < 18446744073709551616 := by
    have : (2 : Nat) ^ i < 2 ^ 63 := Nat.pow_lt_pow_right (by omega) hi
    omega
  have h2 : (2 : Nat) ^ i < 2 ^ 63 := Nat.pow_lt_pow_right (by omega) hi
  show IntKind.i64.wrap ((BitVec.ofInt 64 x &&& BitVec.ofInt 64 ((2 ^ i - 1 : Nat) : Int)).toNat : Int) = _
  rw [BitVec.toNat_and, BitVec.ofInt_natCast, BitVec.toNat_ofNat, Nat.mod_eq_of_lt (by simpa using hlt), Nat.and_two_pow_sub_one_eq_mod, BitVec.toNat_ofInt]
  have hd : (2 : Int) ^ i ∣ ((2 ^ 64 : Nat) : Int) := by
    have : (2 : Nat) ^ i ∣ 2 ^ 64 := Nat.pow_dvd_pow 2 (by omega)
    have := Int.natCast_dvd_natCast.2 this
    simpa using this
  have h3 : (((x % ((2 ^ 64 : Nat) : Int)).toNat % 2 ^ i : Nat) : Int) = x % 2 ^ i := by
    rw [Int.natCast_emod, Int.toNat_of_nonneg (Int.emod_nonneg _ (by decide))]
    simpa using Int.emod_emod_of_dvd x hd
  rw [h3, IntKind.wrap_i64]
  have h4 : (0 : Int) < 2 ^ i := Int.pow_pos (by decide)
  have h5 : (2 : Int) ^ i < 9223372036854775808 := by
    have := Int.ofNat_lt.2 h2
    simpa using this
  have h6 := Int.emod_nonneg x (show (2 : Int) ^ i ≠ 0 by omega)
  have h7 := Int.emod_lt_of_pos x h4
  omega
theorem FromBeR_l0 (s : ByteArray) (hs : s.size ≤ 8) (hs8 : fromL s s.size < 9223372036854775808) (d : Nat) : ∀ (k i : Nat), i ≤ s.size → s.size - i = d → d < k →
    lacquerref02_FromBe.l0 k s (fromL s i) (i : Int) = some (fromL s s.size) := by
  induction d with
  | zero =>
    intro k i h1 h2 h3
    obtain ⟨k, rfl⟩ : ∃ m, k = m + 1 := ⟨k - 1, by omega⟩
    obtain rfl : i = s.size := by omega
    simp only [lacquerref02_FromBe.l0]
    rw [if_neg (by omega)]
  | succ d ih =>
    intro k i h1 h2 h3
    obtain ⟨k, rfl⟩ : ∃ m, k = m + 1 := ⟨k - 1, by omega⟩
    have hl := fromL_lt s i (by omega)
    have hb := bt_range s (i : Nat)
    have hn : fromL s (i + 1) < 9223372036854775808 := by
      by_cases c : i + 1 = s.size
      · rw [c]; exact hs8
      · have := fromL_lt s (i + 1) (by omega); omega
    simp only [fromL] at hn
    have e : wrap64 (wrap64 (fromL s i * 256) + wrap64 (bt s (i : Nat))) = fromL s (i + 1) := by
      simp only [fromL]
      unfold wrap64
      omega
    simp only [lacquerref02_FromBe.l0]
    rw [if_pos (by omega), if_pos (by omega), e, show wrap64 ((i : Int) + 1) = ((i + 1 : Nat) : Int) by unfold wrap64; omega]
    exact ih k (i + 1) (by omega) (by omega) (by omega)
theorem fromL_head (s : ByteArray) : ∀ i, 1 ≤ i → bt s 0 * 256 ^ (i - 1) ≤ fromL s i ∧ fromL s i < (bt s 0 + 1) * 256 ^ (i - 1)
  | 0, h => by omega
  | 1, _ => by simp [fromL]; omega
  | i + 2, _ => by
    have := fromL_head s (i + 1) (by omega)
    have hb := bt_range s ((i + 1 : Nat) : Int)
    have e : i + 2 - 1 = (i + 1 - 1) + 1 := by omega
    rw [e, Int.pow_succ, ← Int.mul_assoc, ← Int.mul_assoc]
    have e2 : fromL s (i + 2) = fromL s (i + 1) * 256 + bt s ((i + 1 : Nat) : Int) := rfl
    omega
theorem FromBeR_ev (s : ByteArray) : Ev (fun k => lacquerref02_FromBe.f k s) (fbR s) := by
  refine Ev.of (lacquerref02_FromBe.mono s) (k := 11) ?_
  unfold lacquerref02_FromBe.f fbR
  by_cases h : 8 < s.size
  · rw [if_pos (by omega), if_pos h]
    simp [lacquerref02_FromBe.j0]
  · rw [if_neg (by omega), if_neg h]
    by_cases h8 : s.size = 8
    · have hh := fromL_head s 8 (by omega)
      have e : (256 : Int) ^ (8 - 1) = 72057594037927936 := by decide
      rw [e] at hh
      rw [if_pos (by omega), if_pos (by omega)]
      by_cases c : bt s 0 > 127
      · rw [h8, if_pos (by omega), decide_eq_true c]
        simp [lacquerref02_FromBe.j0]
      · rw [if_neg (by rw [h8]; omega), decide_eq_false c]
        simp only [lacquerref02_FromBe.j0]
        rw [if_neg (by decide)]
        exact FromBeR_l0 s (by omega) (by rw [h8]; omega) s.size 10 0 (by omega) (by omega) (by omega)
    · have hl : fromL s s.size < 9223372036854775808 := by have := fromL_lt s s.size (by omega); omega
      rw [if_neg (by omega), if_neg (by omega)]
      simp only [lacquerref02_FromBe.j0]
      rw [if_neg (by decide)]
      exact FromBeR_l0 s (by omega) hl s.size 10 0 (by omega) (by omega) (by omega)
theorem toList_data (s : ByteArray) : s.toList = s.data.toList :=
  ByteArray.toList_eq s
theorem bt_extract (s : ByteArray) (a b i : Nat) (hb : b ≤ s.size) (hi : a + i < b) : bt (s.extract a b) (i : Nat) = bt s ((a + i : Nat) : Int) := by
  have h1 : i < (s.extract a b).size := by simp; omega
  have h2 : a + i < s.size := by omega
  simp only [bt, Int.toNat_natCast, dif_pos h1, dif_pos h2]
  congr 2
  exact ByteArray.getElem_extract h1
theorem toList_inj {a b : ByteArray} (h : a.toList = b.toList) : a = b := by
  rw [toList_data, toList_data] at h
  apply ByteArray.ext
  exact Array.toList_inj.1 h
end Go.Proofs.Ytgihacaegmpggaa.Be

/- The plain law of layer 13: which bodies may be (tracks, pictures). -/
namespace Go.Proofs.Ytgihacaegmpggaa.Plain
open Go.RowKit Go.Proofs.Ytgihacaegmpggaa Go.Proofs.Ytgihacaegmpggaa.R Go.Proofs.Ytgihacaegmpggaa.Be Go.Proofs.YtgihacaegmpggaaW.PrintWords Go.Proofs.YtgihacaegmpggaaW.PrintLast Go.Proofs.YtgihacaegmpggaaW.PrintMore
set_option linter.unusedVariables false
set_option linter.unusedSimpArgs false

theorem w64 (x : Int) (h : -9223372036854775808 ≤ x) (h2 : x ≤ 9223372036854775807) : wrap64 x = x := by unfold wrap64; omega
theorem bt_in (s : ByteArray) (i : Int) : 0 ≤ bt s i ∧ bt s i ≤ 255 := by
  unfold bt
  split
  · rename_i h
    have := (s[i.toNat]'h).toNat_lt
    omega
  · omega
theorem toList_nil (s : ByteArray) : (s.toList == ([] : List UInt8)) = decide (s.size = 0) := by
  rw [Be.toList_data]
  have e : s.size = s.data.toList.length := (Array.length_toList (xs := s.data)).symm
  rw [e]
  cases s.data.toList <;> simp
theorem extract_tail (s : ByteArray) (a b : Nat) (ha : a ≤ s.size) : (s.extract a s.size).extract b (s.extract a s.size).size = s.extract (a + b) s.size := by
  rw [ByteArray.extract_extract, ByteArray.size_extract]
  congr 1
  omega
theorem size_tail (s : ByteArray) (a : Nat) : (s.extract a s.size).size = s.size - a := by rw [ByteArray.size_extract]; omega
theorem extract_mid (s : ByteArray) (a b c : Nat) (hc : a + c ≤ s.size) : (s.extract a s.size).extract b c = s.extract (a + b) (a + c) := by
  rw [ByteArray.extract_extract]
  congr 1
  omega

/-- Tracks from a place on. -/
def trk (s : ByteArray) : Nat → Nat → Bool
  | 0, p => decide (p = s.size)
  | n + 1, p => if s.size < p + 36 then false else trk s n (p + 36 + 12 * (bt s ((p + 35 : Nat) : Int)).toNat)
theorem trk_over (s : ByteArray) : ∀ n p, s.size < p → trk s n p = false
  | 0, p, h => decide_eq_false (by omega)
  | n + 1, p, h => by unfold trk; rw [if_pos (by omega)]
def tracksF (s : ByteArray) : Bool := if s.size < 396 then false else if bt s 395 < 1 then false else if 100 < bt s 395 then false else trk s (bt s 395).toNat 396
theorem tracks_l0 (s : ByteArray) (hs : s.size ≤ 140737488355328) (x3 x14 : Int) : ∀ (n p i : Nat), p ≤ s.size → x14 = ((i + n : Nat) : Int) → i + n ≤ 255 →
    Ev (fun k => meta_tracks.l0 k x3 (s.extract p s.size) x14 (i : Nat)) (trk s n p && (decide (1 ≤ x3) && decide (x3 ≤ 100)))
  | 0, p, i, hp, hx, hi => by
    refine Ev.step (f := fun _ => some (trk s 0 p && (decide (1 ≤ x3) && decide (x3 ≤ 100)))) (fun k => ?_) (Ev.now _)
    simp only [meta_tracks.l0]
    rw [if_neg (by omega), toList_nil, size_tail]
    have e : decide (s.size - p = 0) = trk s 0 p := by
      unfold trk
      exact decide_eq_decide.2 (by omega)
    rw [e]
    by_cases h1 : 1 ≤ x3
    · rw [if_pos h1]
      by_cases h2 : x3 ≤ 100
      · rw [if_pos h2, decide_eq_true h1, decide_eq_true h2]
        simp
      · rw [if_neg h2, decide_eq_false h2]
        simp
    · rw [if_neg h1, decide_eq_false h1]
      simp
  | n + 1, p, i, hp, hx, hi => by
    have hsz := size_tail s p
    by_cases h36 : s.size < p + 36
    · have e : trk s (n + 1) p = false := by unfold trk; rw [if_pos h36]
      rw [e]
      refine Ev.step (f := fun _ => some (false && (decide (1 ≤ x3) && decide (x3 ≤ 100)))) (fun k => ?_) (Ev.now _)
      simp only [meta_tracks.l0]
      rw [if_pos (by omega), if_pos (by rw [hsz]; omega)]
      rfl
    · obtain ⟨b, hb⟩ : ∃ b : Nat, bt s ((p + 35 : Nat) : Int) = (b : Int) := ⟨(bt s ((p + 35 : Nat) : Int)).toNat, by have := bt_in s ((p + 35 : Nat) : Int); omega⟩
      have hb2 := bt_in s ((p + 35 : Nat) : Int)
      rw [hb] at hb2
      have e : trk s (n + 1) p = trk s n (p + 36 + 12 * b) := by
        conv => lhs; unfold trk
        rw [if_neg h36, hb, Int.toNat_natCast]
      have hbx : bt (s.extract p s.size) 35 = (b : Int) := by rw [← hb]; exact bt_extract s p s.size 35 (Nat.le_refl _) (by omega)
      have hw : wrap64 (36 + wrap64 (12 * wrap64 (b : Int))) = ((36 + 12 * b : Nat) : Int) := by
        rw [w64 (b : Int) (by omega) (by omega), w64 (12 * (b : Int)) (by omega) (by omega), w64 _ (by omega) (by omega)]
        omega
      rw [e]
      by_cases hlong : s.size < p + (36 + 12 * b)
      · rw [trk_over s n _ (by omega)]
        refine Ev.step (f := fun _ => some (false && (decide (1 ≤ x3) && decide (x3 ≤ 100)))) (fun k => ?_) (Ev.now _)
        simp only [meta_tracks.l0]
        rw [if_pos (by omega), if_neg (by rw [hsz]; omega), if_pos (by rw [hsz]; omega), hbx, hw, if_pos (by rw [hsz]; omega)]
        rfl
      · refine Ev.step (fun k => ?_) (tracks_l0 s hs x3 x14 n (p + 36 + 12 * b) (i + 1) (by omega) (by omega) (by omega))
        simp only [meta_tracks.l0]
        rw [if_pos (by omega), if_neg (by rw [hsz]; omega), if_pos (by rw [hsz]; omega), hbx, hw, if_neg (by rw [hsz]; omega), if_pos (by omega), if_pos (by rw [hsz]; omega),
          Int.toNat_natCast, extract_tail s p _ hp, w64 ((i : Int) + 1) (by omega) (by omega), Nat.add_assoc]
        rfl
theorem tracks_ev (s : ByteArray) (hs : s.size ≤ 140737488355328) : Ev (fun k => meta_tracks.f k s) (tracksF s) := by
  unfold tracksF
  by_cases h : s.size < 396
  · rw [if_pos h]
    refine Ev.congr (f := fun _ => some false) (fun k => ?_) (Ev.now _)
    unfold meta_tracks.f
    rw [if_pos (by omega)]
  · rw [if_neg h]
    obtain ⟨b, hb⟩ : ∃ b : Nat, bt s 395 = (b : Int) := ⟨(bt s 395).toNat, by have := bt_in s 395; omega⟩
    have hb2 := bt_in s 395
    rw [hb] at hb2 ⊢
    have := tracks_l0 s hs b b b 396 0 (by omega) (by omega) (by omega)
    refine Ev.congr (f := fun k => meta_tracks.l0 k b (s.extract 396 s.size) b ((0 : Nat) : Int)) (fun k => ?_) ?_
    · unfold meta_tracks.f
      rw [if_neg (by omega), if_pos (by omega), if_pos (by omega), hb, w64 _ (by omega) (by omega)]
      rfl
    · have e : (if (b : Int) < 1 then false else if 100 < (b : Int) then false else trk s (b : Int).toNat 396) = (trk s b 396 && (decide (1 ≤ (b : Int)) && decide ((b : Int) ≤ 100))) := by
        rw [Int.toNat_natCast]
        by_cases h1 : (b : Int) < 1
        · rw [if_pos h1, decide_eq_false (by omega)]
          simp
        · rw [if_neg h1, decide_eq_true (by omega)]
          by_cases h2 : 100 < (b : Int)
          · rw [if_pos h2, decide_eq_false (by omega)]
            simp
          · rw [if_neg h2, decide_eq_true (by omega)]
            simp
      rw [e]
      exact this
theorem cue_l0 (s : ByteArray) (hs : s.size ≤ 140737488355328) (b : Nat) (hb : bt s 395 = (b : Int)) (hb2 : b ≤ 100) (h396 : 396 ≤ s.size) : ∀ (n p i : Nat), b = i + n → p ≤ 396 + 3096 * i →
    Ev (fun k => lacquerref13_cuesheet.l0 k s (p : Nat) (i : Nat)) (trk s n p)
  | 0, p, i, hx, hp => by
    refine Ev.step (f := fun _ => some (trk s 0 p)) (fun k => ?_) (Ev.now _)
    simp only [lacquerref13_cuesheet.l0]
    rw [if_pos (by omega), hb, w64 _ (by omega) (by omega), if_neg (by omega)]
    congr 1
    unfold trk
    rw [Bool.eq_iff_iff]
    simp
    omega
  | n + 1, p, i, hx, hp => by
    by_cases h36 : s.size < p + 36
    · have e : trk s (n + 1) p = false := by unfold trk; rw [if_pos h36]
      rw [e]
      refine Ev.step (f := fun _ => some false) (fun k => ?_) (Ev.now _)
      simp only [lacquerref13_cuesheet.l0]
      rw [if_pos (by omega), hb, w64 (b : Int) (by omega) (by omega), if_pos (by omega), w64 ((p : Int) + 36) (by omega) (by omega), if_pos (by omega)]
    · obtain ⟨c, hc⟩ : ∃ c : Nat, bt s ((p + 35 : Nat) : Int) = (c : Int) := ⟨(bt s ((p + 35 : Nat) : Int)).toNat, by have := bt_in s ((p + 35 : Nat) : Int); omega⟩
      have hc2 := bt_in s ((p + 35 : Nat) : Int)
      rw [hc] at hc2
      have e : trk s (n + 1) p = trk s n (p + 36 + 12 * c) := by
        conv => lhs; unfold trk
        rw [if_neg h36, hc, Int.toNat_natCast]
      have hw : wrap64 ((p : Int) + wrap64 (36 + wrap64 (12 * wrap64 (c : Int)))) = ((p + 36 + 12 * c : Nat) : Int) := by
        rw [w64 (c : Int) (by omega) (by omega), w64 (12 * (c : Int)) (by omega) (by omega), w64 (36 + 12 * (c : Int)) (by omega) (by omega), w64 _ (by omega) (by omega)]
        omega
      have e35 : wrap64 ((p : Int) + 35) = ((p + 35 : Nat) : Int) := by rw [w64 _ (by omega) (by omega)]; omega
      rw [e]
      refine Ev.step (fun k => ?_) (cue_l0 s hs b hb hb2 h396 n (p + 36 + 12 * c) (i + 1) (by omega) (by omega))
      simp only [lacquerref13_cuesheet.l0]
      rw [if_pos (by omega), hb, w64 (b : Int) (by omega) (by omega), if_pos (by omega), w64 ((p : Int) + 36) (by omega) (by omega), if_neg (by omega), e35, if_pos (by omega), if_pos (by omega), hc, hw, w64 ((i : Int) + 1) (by omega) (by omega)]
      rfl
theorem cue_ev (s : ByteArray) (hs : s.size ≤ 140737488355328) : Ev (fun k => lacquerref13_cuesheet.f k s) (tracksF s) := by
  unfold tracksF
  have hno : Ev (fun k => lacquerref13_cuesheet.j0 k s true) false := Ev.step (f := fun _ => some false) (fun k => by simp only [lacquerref13_cuesheet.j0]; rw [if_pos trivial]) (Ev.now _)
  by_cases h : s.size < 396
  · rw [if_pos h]
    refine Ev.congr (fun k => ?_) hno
    unfold lacquerref13_cuesheet.f
    rw [if_pos (by omega)]
  · rw [if_neg h]
    by_cases h1 : bt s 395 < 1
    · rw [if_pos h1]
      refine Ev.congr (fun k => ?_) hno
      unfold lacquerref13_cuesheet.f
      rw [if_neg (by omega), if_pos (by omega), if_pos h1]
    · rw [if_neg h1]
      by_cases h2 : 100 < bt s 395
      · rw [if_pos h2]
        refine Ev.congr (fun k => ?_) hno
        unfold lacquerref13_cuesheet.f
        rw [if_neg (by omega), if_pos (by omega), if_neg h1, decide_eq_true h2]
      · rw [if_neg h2]
        obtain ⟨b, hb⟩ : ∃ b : Nat, bt s 395 = (b : Int) := ⟨(bt s 395).toNat, by omega⟩
        have := cue_l0 s hs b hb (by omega) (by omega) b 396 0 (by omega) (by omega)
        rw [hb, Int.toNat_natCast]
        refine Ev.congr (f := fun k => lacquerref13_cuesheet.j0 k s false) (fun k => ?_) (Ev.step (fun k => ?_) this)
        · unfold lacquerref13_cuesheet.f
          rw [if_neg (by omega), if_pos (by omega), if_neg h1, decide_eq_false h2]
        · simp only [lacquerref13_cuesheet.j0]
          rw [if_neg (by decide)]
          rfl
end Go.Proofs.Ytgihacaegmpggaa.Plain

/- The plain law of layer 13: pictures, and which blocks may be. -/
namespace Go.Proofs.Ytgihacaegmpggaa.Plain
open Go.RowKit Go.Proofs.Ytgihacaegmpggaa Go.Proofs.Ytgihacaegmpggaa.R Go.Proofs.Ytgihacaegmpggaa.Be Go.Proofs.YtgihacaegmpggaaW.PrintWords Go.Proofs.YtgihacaegmpggaaW.PrintLast Go.Proofs.YtgihacaegmpggaaW.PrintMore
set_option linter.unusedVariables false
set_option linter.unusedSimpArgs false

/-- Four bytes are a number below 2^32; three, below 2^24. -/
theorem fb_in (s : ByteArray) (h : s.size ≤ 4) : 0 ≤ fbR s ∧ fbR s < 4294967296 ∧ fbR s < 256 ^ s.size := by
  have h1 := fromL_range s s.size
  have h2 : (256 : Int) ^ s.size ≤ 4294967296 := by
    rcases (show s.size = 0 ∨ s.size = 1 ∨ s.size = 2 ∨ s.size = 3 ∨ s.size = 4 by omega) with e | e | e | e | e <;> rw [e] <;> decide
  have e : fbR s = fromL s s.size := by
    unfold fbR
    rw [if_neg (by omega), if_neg (by omega)]
  rw [e]
  exact ⟨h1.1, by omega, h1.2⟩
/-- A picture from a place on: parts, each behind so many bytes. -/
def pic (s : ByteArray) : List Nat → Nat → Bool
  | [], p => decide (p = s.size)
  | o :: os, p => if s.size < p + o + 4 then false else if (s.size : Int) - ((p + o + 4 : Nat) : Int) < fbR (s.extract (p + o) (p + o + 4)) then false else pic s os (p + o + 4 + (fbR (s.extract (p + o) (p + o + 4))).toNat)
theorem part_no (s : ByteArray) (hs : s.size ≤ 140737488355328) (p o : Nat) (hp : p ≤ s.size) (ho : o ≤ 16) (h : s.size < p + o + 4) : Ev (fun k => meta_part.f k (s.extract p s.size) (o : Nat)) (⟨#[]⟩, false) := by
  refine Ev.congr (f := fun _ => some (⟨#[]⟩, false)) (fun k => ?_) (Ev.now _)
  unfold meta_part.f
  rw [w64 ((o : Int) + 4) (by omega) (by omega), if_pos (by rw [size_tail]; omega)]
theorem part_at (s : ByteArray) (hs : s.size ≤ 140737488355328) (p o : Nat) (hp : p ≤ s.size) (ho : o ≤ 16) (h : ¬ s.size < p + o + 4) :
    Ev (fun k => meta_part.f k (s.extract p s.size) (o : Nat)) (if (s.size : Int) - ((p + o + 4 : Nat) : Int) < fbR (s.extract (p + o) (p + o + 4)) then (⟨#[]⟩, false) else (s.extract (p + o + 4 + (fbR (s.extract (p + o) (p + o + 4))).toNat) s.size, true)) := by
  have hz := size_tail s p
  have e1 : (s.extract p s.size).extract o (s.extract p s.size).size = s.extract (p + o) s.size := extract_tail s p o hp
  have hz2 := size_tail s (p + o)
  have e2 : (s.extract (p + o) s.size).extract 0 4 = s.extract (p + o) (p + o + 4) := by rw [extract_mid s (p + o) 0 4 (by omega), Nat.add_zero]
  have hx4 : (s.extract (p + o) (p + o + 4)).size ≤ 4 := by rw [ByteArray.size_extract]; omega
  have hfb := fb_in _ hx4
  have hev := Be.FromBe_ev (s.extract (p + o) (p + o + 4))
  generalize fbR (s.extract (p + o) (p + o + 4)) = t at hfb hev ⊢
  refine Ev.congr (f := fun k => (bytes_FromBe.f k (s.extract (p + o) (p + o + 4))).bind fun t => if t > (s.size : Int) - ((p + o + 4 : Nat) : Int) then some ((⟨#[]⟩ : ByteArray), false) else if 0 ≤ wrap64 (4 + t) then (if wrap64 (4 + t) ≤ ((s.extract (p + o) s.size).size : Int) then some ((s.extract (p + o) s.size).extract (wrap64 (4 + t)).toNat (s.extract (p + o) s.size).size, true) else none) else none) (fun k => ?_) ?_
  · unfold meta_part.f
    have hw : wrap64 (((s.extract (p + o) s.size).size : Int) - 4) = (s.size : Int) - ((p + o + 4 : Nat) : Int) := by
      rw [hz2, w64 _ (by omega) (by omega)]
      omega
    rw [w64 ((o : Int) + 4) (by omega) (by omega), if_neg (by rw [hz]; omega), if_pos (by omega), if_pos (by rw [hz]; omega), if_pos (by decide), Int.toNat_natCast, e1, if_pos (by rw [hz2]; omega), e2, hw]
  · refine Ev.bind hev ?_
    by_cases h1 : (s.size : Int) - ((p + o + 4 : Nat) : Int) < t
    · rw [show (if (s.size : Int) - ((p + o + 4 : Nat) : Int) < t then ((⟨#[]⟩ : ByteArray), false) else (s.extract (p + o + 4 + t.toNat) s.size, true)) = (⟨#[]⟩, false) from if_pos h1]
      exact Ev.congr (f := fun _ => some (⟨#[]⟩, false)) (fun k => if_pos h1) (Ev.now _)
    · rw [show (if (s.size : Int) - ((p + o + 4 : Nat) : Int) < t then ((⟨#[]⟩ : ByteArray), false) else (s.extract (p + o + 4 + t.toNat) s.size, true)) = (s.extract (p + o + 4 + t.toNat) s.size, true) from if_neg h1]
      refine Ev.congr (f := fun _ => some (s.extract (p + o + 4 + t.toNat) s.size, true)) (fun k => ?_) (Ev.now _)
      rw [if_neg h1, w64 (4 + t) (by omega) (by omega), if_pos (by omega), if_pos (by rw [hz2]; omega), extract_tail s (p + o) _ (by omega)]
      congr 3
      omega
theorem image_l0 (s : ByteArray) (hs : s.size ≤ 140737488355328) (ys : List Int) (os : List Nat) (hy : ys = os.map (fun o => ((o : Nat) : Int))) (ho : ∀ o ∈ os, o ≤ 16) (hl : os.length ≤ 100) :
    ∀ (d p i : Nat), p ≤ s.size → i + d = os.length → Ev (fun k => meta_image.l0 k (s.extract p s.size) ys (os.length : Nat) (i : Nat)) (pic s (os.drop i) p)
  | 0, p, i, hp, hi => by
    rw [List.drop_eq_nil_of_le (by omega)]
    refine Ev.step (f := fun _ => some (pic s [] p)) (fun k => ?_) (Ev.now _)
    simp only [meta_image.l0]
    rw [if_neg (by omega), toList_nil, size_tail]
    congr 1
    exact decide_eq_decide.2 (by omega)
  | d + 1, p, i, hp, hi => by
    have hlt : i < os.length := by omega
    rw [List.drop_eq_getElem_cons hlt]
    have hrd : rd ys (i : Nat) = ((os[i] : Nat) : Int) := by
      rw [hy]
      simp [rd, hlt]
    have ho16 : os[i] ≤ 16 := ho _ (List.getElem_mem hlt)
    have ih := fun q hq => image_l0 s hs ys os hy ho hl d q (i + 1) hq (by omega)
    generalize os[i] = o at hrd ho16
    have hstep : ∀ k, meta_image.l0 (k + 1) (s.extract p s.size) ys (os.length : Nat) (i : Nat) = (meta_part.f k (s.extract p s.size) (o : Nat)).bind fun b => if b.2 = true then meta_image.l0 k b.1 ys (os.length : Nat) ((i + 1 : Nat) : Int) else some false := fun k => by
      simp only [meta_image.l0]
      rw [if_pos (by omega), if_pos (by omega), if_pos (by rw [hy, List.length_map]; omega), hrd, w64 ((i : Int) + 1) (by omega) (by omega)]
      rfl
    by_cases h : s.size < p + o + 4
    · have e : pic s (o :: os.drop (i + 1)) p = false := by unfold pic; rw [if_pos h]
      rw [e]
      exact Ev.step hstep (Ev.bind (part_no s hs p o hp ho16 h) (Ev.congr (fun k => if_neg (by decide)) (Ev.now _)))
    · have hpt := part_at s hs p o hp ho16 h
      have hfb := fb_in (s.extract (p + o) (p + o + 4)) (by rw [ByteArray.size_extract]; omega)
      have e : pic s (o :: os.drop (i + 1)) p = if (s.size : Int) - ((p + o + 4 : Nat) : Int) < fbR (s.extract (p + o) (p + o + 4)) then false else pic s (os.drop (i + 1)) (p + o + 4 + (fbR (s.extract (p + o) (p + o + 4))).toNat) := by
        conv => lhs; unfold pic
        rw [if_neg h]
      rw [e]
      generalize fbR (s.extract (p + o) (p + o + 4)) = t at hpt hfb
      by_cases h1 : (s.size : Int) - ((p + o + 4 : Nat) : Int) < t
      · rw [if_pos h1] at hpt ⊢
        exact Ev.step hstep (Ev.bind hpt (Ev.congr (fun k => if_neg (by decide)) (Ev.now _)))
      · rw [if_neg h1] at hpt ⊢
        exact Ev.step hstep (Ev.bind hpt (Ev.congr (fun k => if_pos rfl) (ih (p + o + 4 + t.toNat) (by omega))))
def imageF (s : ByteArray) : Bool := pic s [4, 0, 16] 0
theorem image_ev (s : ByteArray) (hs : s.size ≤ 140737488355328) : Ev (fun k => meta_image.f k s) (imageF s) := by
  have := image_l0 s hs [4, 0, 16] [4, 0, 16] rfl (by decide) (by decide) 3 0 0 (by omega) rfl
  rw [show s.extract 0 s.size = s from ByteArray.extract_zero_size] at this
  exact this
theorem pict_j1 (s : ByteArray) (hs : s.size ≤ 140737488355328) (p o : Nat) (os : List Nat) (i : Int) (hpo : p ≤ s.size) (hoo : o ≤ 16)
    (ih : ∀ q, q ≤ s.size → Ev (fun k => lacquerref13_picture.l0 k s (q : Nat) (wrap64 (i + 1))) (pic s os q)) :
    Ev (fun k => lacquerref13_picture.j1 k s ((p + o : Nat) : Int) i) (pic s (o :: os) p) := by
  by_cases h : s.size < p + o + 4
  · have e : pic s (o :: os) p = false := by unfold pic; rw [if_pos h]
    rw [e]
    refine Ev.step (f := fun _ => some false) (fun k => ?_) (Ev.now _)
    simp only [lacquerref13_picture.j1]
    rw [w64 (((p + o : Nat) : Int) + 4) (by omega) (by omega), if_pos (by omega)]
  · have e : pic s (o :: os) p = if (s.size : Int) - ((p + o + 4 : Nat) : Int) < fbR (s.extract (p + o) (p + o + 4)) then false else pic s os (p + o + 4 + (fbR (s.extract (p + o) (p + o + 4))).toNat) := by
      conv => lhs; unfold pic
      rw [if_neg h]
    rw [e]
    have hfb := fb_in (s.extract (p + o) (p + o + 4)) (by rw [ByteArray.size_extract]; omega)
    have hev := Be.FromBeR_ev (s.extract (p + o) (p + o + 4))
    have e4 : wrap64 (((p + o : Nat) : Int) + 4) = ((p + o + 4 : Nat) : Int) := by rw [w64 _ (by omega) (by omega)]; omega
    refine Ev.step (f := fun k => (lacquerref02_FromBe.f k (s.extract (p + o) (p + o + 4))).bind fun t => if t > (s.size : Int) - ((p + o + 4 : Nat) : Int) then some false else lacquerref13_picture.l0 k s (wrap64 (((p + o + 4 : Nat) : Int) + t)) (wrap64 (i + 1))) (fun k => ?_) ?_
    · simp only [lacquerref13_picture.j1]
      rw [e4, if_neg (by omega), if_pos (by omega), if_pos (by omega), if_pos (by omega), Int.toNat_natCast, Int.toNat_natCast, w64 ((s.size : Int) - _) (by omega) (by omega)]
    · refine Ev.bind hev ?_
      generalize fbR (s.extract (p + o) (p + o + 4)) = t at hfb
      by_cases h1 : (s.size : Int) - ((p + o + 4 : Nat) : Int) < t
      · rw [if_pos h1]
        exact Ev.congr (fun k => if_pos h1) (Ev.now _)
      · rw [if_neg h1]
        refine Ev.congr (f := fun k => lacquerref13_picture.l0 k s ((p + o + 4 + t.toNat : Nat) : Int) (wrap64 (i + 1))) (fun k => ?_) (ih _ (by omega))
        rw [if_neg h1, w64 _ (by omega) (by omega)]
        congr 1
        omega
theorem pict_ev (s : ByteArray) (hs : s.size ≤ 140737488355328) : Ev (fun k => lacquerref13_picture.f k s) (imageF s) := by
  unfold imageF
  have h3 : ∀ q, q ≤ s.size → Ev (fun k => lacquerref13_picture.l0 k s (q : Nat) 3) (pic s [] q) := fun q hq => by
    refine Ev.step (f := fun _ => some (pic s [] q)) (fun k => ?_) (Ev.now _)
    simp only [lacquerref13_picture.l0]
    rw [if_neg (by decide)]
    congr 1
    unfold pic
    rw [Bool.eq_iff_iff]
    simp
    omega
  have h2 : ∀ q, q ≤ s.size → Ev (fun k => lacquerref13_picture.l0 k s (q : Nat) 2) (pic s [16] q) := fun q hq => by
    refine Ev.step (fun k => ?_) (pict_j1 s hs q 16 [] 2 hq (by decide) (by rw [show wrap64 ((2 : Int) + 1) = 3 from by rw [w64 _ (by decide) (by decide)]; rfl]; exact h3))
    simp only [lacquerref13_picture.l0]
    rw [if_pos (by decide), if_pos (by decide), w64 _ (by omega) (by omega)]
    rfl
  have h1 : ∀ q, q ≤ s.size → Ev (fun k => lacquerref13_picture.l0 k s (q : Nat) 1) (pic s [0, 16] q) := fun q hq => by
    refine Ev.step (fun k => ?_) (pict_j1 s hs q 0 [16] 1 hq (by decide) (by rw [show wrap64 ((1 : Int) + 1) = 2 from by rw [w64 _ (by decide) (by decide)]; rfl]; exact h2))
    simp only [lacquerref13_picture.l0]
    rw [if_pos (by decide), if_neg (by decide)]
    rfl
  refine Ev.step (g := fun k => lacquerref13_picture.f k s) (fun k => ?_) (pict_j1 s hs 0 4 [0, 16] 0 (by omega) (by decide) (by rw [show wrap64 ((0 : Int) + 1) = 1 from by rw [w64 _ (by decide) (by decide)]; rfl]; exact h1))
  unfold lacquerref13_picture.f
  simp only [lacquerref13_picture.l0]
  rw [if_pos (by decide), if_neg (by decide)]
  rfl
end Go.Proofs.Ytgihacaegmpggaa.Plain

/- The plain law of layer 13: which blocks may be; a text as blocks. -/
namespace Go.Proofs.Ytgihacaegmpggaa.Plain
open Go.RowKit Go.Proofs.Ytgihacaegmpggaa Go.Proofs.Ytgihacaegmpggaa.R Go.Proofs.Ytgihacaegmpggaa.Be Go.Proofs.YtgihacaegmpggaaW.PrintWords Go.Proofs.YtgihacaegmpggaaW.PrintLast Go.Proofs.YtgihacaegmpggaaW.PrintMore
set_option linter.unusedVariables false
set_option linter.unusedSimpArgs false

def checkF (t : Int) (b : ByteArray) : Int :=
  if t < 0 then 2 else if 126 < t then 2 else if 16777216 ≤ b.size then 2 else if t = 0 then (Hand.infoF b).2 else if t = 2 then (if 4 ≤ b.size then 0 else 2) else if t = 3 then (if b.size % 18 = 0 then 0 else 2)
  else if t = 5 then (if tracksF b = true then 0 else 2) else if t = 6 then (if imageF b = true then 0 else 2) else 0
theorem flat_last (p : Hand.Inf × Int) : (Hand.flatI p).2.2.2.2.2.2.2.2.2 = p.2 := by
  obtain ⟨⟨_, _, _, _, _, _, _, _, _⟩, _⟩ := p
  rfl
def checkG (t : Int) (b : ByteArray) : Int :=
  if t = 0 then (Hand.infoF b).2 else if t = 2 then (if 4 ≤ b.size then 0 else 2) else if t = 3 then (if b.size % 18 = 0 then 0 else 2)
  else if t = 5 then (if tracksF b = true then 0 else 2) else if t = 6 then (if imageF b = true then 0 else 2) else 0
theorem check_j0 (t : Int) (b : ByteArray) (hs : b.size ≤ 140737488355328) : Ev (fun k => meta_Check.j0 k false t b) (checkG t b) := by
  unfold checkG
  by_cases h0 : t = 0
  · subst h0
    rw [if_pos rfl]
    refine Ev.step (f := fun _ => some (Hand.infoF b).2) (fun k => ?_) (Ev.now _)
    simp only [meta_Check.j0]
    rw [if_neg (by decide), if_pos trivial]
    show some (Hand.flatI (Hand.infoF b)).2.2.2.2.2.2.2.2.2 = _
    rw [flat_last]
  rw [if_neg h0]
  by_cases h2 : t = 2
  · subst h2
    rw [if_pos rfl]
    refine Ev.step (f := fun _ => some (if 4 ≤ b.size then 0 else 2)) (fun k => ?_) (Ev.now _)
    simp only [meta_Check.j0]
    rw [if_neg (by decide), if_neg (by decide), if_pos trivial]
    by_cases h : 4 ≤ b.size
    · rw [if_pos h, if_pos (by omega)]
    · rw [if_neg h, if_neg (by omega)]
  rw [if_neg h2]
  by_cases h3 : t = 3
  · subst h3
    rw [if_pos rfl]
    refine Ev.step (f := fun _ => some (if b.size % 18 = 0 then 0 else 2)) (fun k => ?_) (Ev.now _)
    simp only [meta_Check.j0]
    rw [if_neg (by decide), if_neg (by decide), if_neg (by decide), if_pos trivial]
    by_cases h : b.size % 18 = 0
    · rw [if_pos h, if_pos (by omega)]
    · rw [if_neg h, if_neg (by omega)]
  rw [if_neg h3]
  by_cases h5 : t = 5
  · subst h5
    rw [if_pos rfl]
    refine Ev.step (f := fun k => (meta_tracks.f k b).bind fun q => if q = true then some 0 else some 2) (fun k => ?_) ?_
    · simp only [meta_Check.j0]
      rw [if_neg (by decide), if_neg (by decide), if_neg (by decide), if_neg (by decide), if_pos trivial]
    · refine Ev.bind (tracks_ev b hs) ?_
      cases tracksF b
      · exact Ev.now _
      · exact Ev.now _
  rw [if_neg h5]
  by_cases h6 : t = 6
  · subst h6
    rw [if_pos rfl]
    refine Ev.step (f := fun k => (meta_image.f k b).bind fun q => if q = true then some 0 else some 2) (fun k => ?_) ?_
    · simp only [meta_Check.j0]
      rw [if_neg (by decide), if_neg (by decide), if_neg (by decide), if_neg (by decide), if_neg (by decide), if_pos trivial]
    · refine Ev.bind (image_ev b hs) ?_
      cases imageF b
      · exact Ev.now _
      · exact Ev.now _
  rw [if_neg h6]
  have hj : ∀ q, Ev (fun k => meta_Check.j1 k true q) 0 := fun q => by
    refine Ev.step (f := fun _ => some 0) (fun k => ?_) (Ev.now _)
    simp only [meta_Check.j1]
    cases q <;> rfl
  by_cases h1 : t = 1
  · refine Ev.step (fun k => ?_) (hj (t == 1))
    simp only [meta_Check.j0]
    rw [if_neg (by decide), if_neg h0, if_neg h2, if_neg h3, if_neg h5, if_neg h6, if_pos h1]
  · refine Ev.step (fun k => ?_) (hj (t == 4))
    simp only [meta_Check.j0]
    rw [if_neg (by decide), if_neg h0, if_neg h2, if_neg h3, if_neg h5, if_neg h6, if_neg h1]
theorem check_ev (t : Int) (b : ByteArray) : Ev (fun k => meta_Check.f k t b) (checkF t b) := by
  have hno : Ev (fun k => meta_Check.j0 k true t b) 2 := Ev.step (f := fun _ => some 2) (fun k => by simp only [meta_Check.j0]; rw [if_pos trivial]) (Ev.now _)
  unfold checkF
  by_cases h0 : t < 0
  · rw [if_pos h0]
    exact Ev.congr (fun k => by unfold meta_Check.f; rw [if_pos h0]) hno
  rw [if_neg h0]
  by_cases h1 : 126 < t
  · rw [if_pos h1]
    exact Ev.congr (fun k => by unfold meta_Check.f; rw [if_neg h0, if_pos h1]) hno
  rw [if_neg h1]
  by_cases h2 : 16777216 ≤ b.size
  · rw [if_pos h2]
    exact Ev.congr (fun k => by unfold meta_Check.f; rw [if_neg h0, if_neg h1, decide_eq_true (by omega)]) hno
  rw [if_neg h2]
  exact Ev.congr (fun k => by unfold meta_Check.f; rw [if_neg h0, if_neg h1, decide_eq_false (by omega)]) (check_j0 t b (by omega))
theorem xcheck_j0 (t : Int) (b : ByteArray) (hs : b.size ≤ 140737488355328) : Ev (fun k => lacquerref13_Check.j0 k false t b) (checkG t b) := by
  unfold checkG
  by_cases h0 : t = 0
  · subst h0
    rw [if_pos rfl]
    refine Ev.step (f := fun _ => some (Hand.infoF b).2) (fun k => ?_) (Ev.now _)
    simp only [lacquerref13_Check.j0]
    rw [if_neg (by decide), if_pos trivial]
    show some (Hand.flatI (Hand.infoF b)).2.2.2.2.2.2.2.2.2 = _
    rw [flat_last]
  rw [if_neg h0]
  by_cases h2 : t = 2
  · subst h2
    rw [if_pos rfl]
    refine Ev.step (f := fun _ => some (if 4 ≤ b.size then 0 else 2)) (fun k => ?_) (Ev.now _)
    simp only [lacquerref13_Check.j0]
    rw [if_neg (by decide), if_neg (by decide), if_pos trivial]
    by_cases h : 4 ≤ b.size
    · rw [if_pos h, if_pos (by omega)]
    · rw [if_neg h, if_neg (by omega)]
  rw [if_neg h2]
  by_cases h3 : t = 3
  · subst h3
    rw [if_pos rfl]
    refine Ev.step (f := fun _ => some (if b.size % 18 = 0 then 0 else 2)) (fun k => ?_) (Ev.now _)
    simp only [lacquerref13_Check.j0]
    rw [if_neg (by decide), if_neg (by decide), if_neg (by decide), if_pos trivial]
    by_cases h : b.size % 18 = 0
    · rw [if_pos h, if_pos (by omega)]
    · rw [if_neg h, if_neg (by omega)]
  rw [if_neg h3]
  by_cases h5 : t = 5
  · subst h5
    rw [if_pos rfl]
    refine Ev.step (f := fun k => (lacquerref13_cuesheet.f k b).bind fun q => if q = true then some 0 else some 2) (fun k => ?_) ?_
    · simp only [lacquerref13_Check.j0]
      rw [if_neg (by decide), if_neg (by decide), if_neg (by decide), if_neg (by decide), if_pos trivial]
    · refine Ev.bind (cue_ev b hs) ?_
      cases tracksF b
      · exact Ev.now _
      · exact Ev.now _
  rw [if_neg h5]
  by_cases h6 : t = 6
  · subst h6
    rw [if_pos rfl]
    refine Ev.step (f := fun k => (lacquerref13_picture.f k b).bind fun q => if q = true then some 0 else some 2) (fun k => ?_) ?_
    · simp only [lacquerref13_Check.j0]
      rw [if_neg (by decide), if_neg (by decide), if_neg (by decide), if_neg (by decide), if_neg (by decide), if_pos trivial]
    · refine Ev.bind (pict_ev b hs) ?_
      cases imageF b
      · exact Ev.now _
      · exact Ev.now _
  rw [if_neg h6]
  refine Ev.step (f := fun _ => some 0) (fun k => ?_) (Ev.now _)
  simp only [lacquerref13_Check.j0]
  rw [if_neg (by decide), if_neg h0, if_neg h2, if_neg h3, if_neg h5, if_neg h6]
theorem xcheck_ev (t : Int) (b : ByteArray) : Ev (fun k => lacquerref13_Check.f k t b) (checkF t b) := by
  have hno : Ev (fun k => lacquerref13_Check.j0 k true t b) 2 := Ev.step (f := fun _ => some 2) (fun k => by simp only [lacquerref13_Check.j0]; rw [if_pos trivial]) (Ev.now _)
  unfold checkF
  by_cases h0 : t < 0
  · rw [if_pos h0]
    exact Ev.congr (fun k => by unfold lacquerref13_Check.f; rw [if_pos h0]) hno
  rw [if_neg h0]
  by_cases h1 : 126 < t
  · rw [if_pos h1]
    exact Ev.congr (fun k => by unfold lacquerref13_Check.f; rw [if_neg h0, if_pos h1]) hno
  rw [if_neg h1]
  by_cases h2 : 16777216 ≤ b.size
  · rw [if_pos h2]
    exact Ev.congr (fun k => by unfold lacquerref13_Check.f; rw [if_neg h0, if_neg h1, decide_eq_true (by omega)]) hno
  rw [if_neg h2]
  exact Ev.congr (fun k => by unfold lacquerref13_Check.f; rw [if_neg h0, if_neg h1, decide_eq_false (by omega)]) (xcheck_j0 t b (by omega))
end Go.Proofs.Ytgihacaegmpggaa.Plain

/- The plain law of layer 13: awake; which blocks may be. -/
namespace Go.Proofs.Ytgihacaegmpggaa.Plain
open Go.RowKit Go.Proofs.Ytgihacaegmpggaa Go.Proofs.Ytgihacaegmpggaa.R Go.Proofs.Ytgihacaegmpggaa.Be Go.Proofs.YtgihacaegmpggaaW.PrintWords Go.Proofs.YtgihacaegmpggaaW.PrintLast Go.Proofs.YtgihacaegmpggaaW.PrintMore
set_option linter.unusedVariables false
set_option linter.unusedSimpArgs false

theorem awake_ok : lacquerlaw13_awake.f 60 = some true := by decide +kernel
theorem awake_ev : Ev (fun k => lacquerlaw13_awake.f k) true := Ev.of lacquerlaw13_awake.mono awake_ok
end Go.Proofs.Ytgihacaegmpggaa.Plain

/- The plain law of layer 13: a text as blocks. -/
namespace Go.Proofs.Ytgihacaegmpggaa.Plain
open Go.RowKit Go.Proofs.Ytgihacaegmpggaa Go.Proofs.Ytgihacaegmpggaa.R Go.Proofs.Ytgihacaegmpggaa.Be Go.Proofs.YtgihacaegmpggaaW.PrintWords Go.Proofs.YtgihacaegmpggaaW.PrintLast Go.Proofs.YtgihacaegmpggaaW.PrintMore
set_option linter.unusedVariables false
set_option linter.unusedSimpArgs false

theorem and_fin : ∀ c : Fin 256, Go.bits .and .u8 (c.val : Int) 127 = (c.val : Int) % 128 := by decide +kernel
theorem and_u8 (x : Int) (h : 0 ≤ x ∧ x ≤ 255) : wrap64 (Go.bits .and .u8 x 127) = x % 128 := by
  obtain ⟨c, hc⟩ : ∃ c : Fin 256, x = (c.val : Int) := ⟨⟨x.toNat, by omega⟩, by simp; omega⟩
  rw [hc, and_fin c, w64 _ (by omega) (by omega)]
theorem and_64 (x : Int) : Go.bits .and .i64 x 127 = x % 128 := Be.and_mask x 7 (by decide)

def typ (s : ByteArray) (p : Nat) : Int := bt s (p : Nat) % 128
def len3 (s : ByteArray) (p : Nat) : Int := fbR (s.extract (p + 1) (p + 4))
def body (s : ByteArray) (p : Nat) : ByteArray := s.extract (p + 4) (p + 4 + (len3 s p).toNat)
def com (c t : Int) : Int := if t = 4 then c + 1 else c
def bad (l : List S36) (c t : Int) : Bool := decide (t = 127) || (decide (1 < c) || (decide (l.length = 0) != decide (t = 0)))
/-- What follows behind a block's head. -/
def nxt (l : List S36) (c t : Int) (b : ByteArray) (r : List S36 × Int × Int) : List S36 × Int × Int :=
  if bad l c t = true then ([], 0, 2) else if l.length = 1024 then ([], 0, 5) else if checkF t b = 0 then r else ([], 0, checkF t b)
def prs (s : ByteArray) : Nat → List S36 → Nat → Int → List S36 × Int × Int
  | 0, _, _, _ => ([], 0, 2)
  | d + 1, l, p, c =>
    if s.size < p + 4 then ([], 0, 2)
    else if (s.size : Int) - ((p + 4 : Nat) : Int) < len3 s p then ([], 0, 2)
    else nxt l (com c (typ s p)) (typ s p) (body s p)
      (if 127 < bt s (p : Nat) then (l ++ [⟨typ s p, body s p⟩], ((p + 4 + (len3 s p).toNat : Nat) : Int), 0)
       else prs s d (l ++ [⟨typ s p, body s p⟩]) (p + 4 + (len3 s p).toNat) (com c (typ s p)))
theorem eq0 (n : Nat) : ((n : Int) == 0) = decide (n = 0) := by rw [Bool.eq_iff_iff]; simp
theorem eqz (t : Int) : (t == 0) = decide (t = 0) := by rw [Bool.eq_iff_iff]; simp
theorem parse_j3 (s : ByteArray) (l : List S36) (rest : ByteArray) (last : Bool) (c t : Int) (b : ByteArray) (flag : Bool) (hl : l.length ≤ 1024) (r : List S36 × Int × Int)
    (hnext : flag = false → l.length ≠ 1024 → checkF t b = 0 → Ev (fun k => meta_Parse.l0 k s (l ++ [⟨t, b⟩]) rest last c) r) :
    Ev (fun k => meta_Parse.j3 k s l rest last c flag t b) (if flag = true then ([], 0, 2) else if l.length = 1024 then ([], 0, 5) else if checkF t b = 0 then r else ([], 0, checkF t b)) := by
  by_cases hf : flag = true
  · rw [if_pos hf]
    refine Ev.step (f := fun _ => some ([], 0, 2)) (fun k => ?_) (Ev.now _)
    simp only [meta_Parse.j3]
    rw [if_pos hf]
  · rw [if_neg hf]
    by_cases h1 : l.length = 1024
    · rw [if_pos h1]
      refine Ev.step (f := fun _ => some ([], 0, 5)) (fun k => ?_) (Ev.now _)
      simp only [meta_Parse.j3]
      rw [if_neg hf, if_pos (by omega)]
    · rw [if_neg h1]
      refine Ev.step (f := fun k => (meta_Check.f k t b).bind fun q => if q = 0 then (if l.length < 5864062014805 then meta_Parse.l0 k s (l ++ [⟨t, b⟩]) rest last c else none) else some ([], 0, q)) (fun k => ?_) ?_
      · simp only [meta_Parse.j3]
        rw [if_neg hf, if_neg (by omega)]
      · refine Ev.bind (check_ev t b) ?_
        by_cases h0 : checkF t b = 0
        · rw [if_pos h0]
          refine Ev.congr (fun k => ?_) (hnext (Bool.eq_false_iff.mpr hf) h1 h0)
          show (if checkF t b = 0 then _ else _) = _
          rw [if_pos h0, if_pos (by omega)]
        · rw [if_neg h0]
          refine Ev.congr (f := fun _ => some ([], 0, checkF t b)) (fun k => ?_) (Ev.now _)
          show (if checkF t b = 0 then _ else _) = _
          rw [if_neg h0]
theorem parse_j2 (s : ByteArray) (l : List S36) (rest : ByteArray) (last : Bool) (c t : Int) (b : ByteArray) (hc : c ≤ 2) (hl : l.length ≤ 1024) (r : List S36 × Int × Int)
    (hnext : bad l c t = false → l.length ≠ 1024 → checkF t b = 0 → Ev (fun k => meta_Parse.l0 k s (l ++ [⟨t, b⟩]) rest last c) r) :
    Ev (fun k => meta_Parse.j2 k s l rest last c t b) (nxt l c t b r) := by
  have h := parse_j3 s l rest last c t b (bad l c t) hl r hnext
  refine Ev.step (fun k => ?_) h
  simp only [meta_Parse.j2]
  by_cases h1 : t = 127
  · rw [if_pos h1]
    have : bad l c t = true := by unfold bad; rw [decide_eq_true h1]; rfl
    rw [this]
  · rw [if_neg h1]
    by_cases h2 : c = 2
    · rw [if_pos h2]
      have : bad l c t = true := by unfold bad; rw [decide_eq_true (show 1 < c by omega)]; simp
      rw [this]
    · rw [if_neg h2]
      have : bad l c t = (((l.length : Int) == 0) != (t == 0)) := by
        unfold bad
        rw [decide_eq_false h1, decide_eq_false (show ¬ 1 < c by omega), eq0, eqz]
        rfl
      rw [this]
theorem parse_last (s : ByteArray) (l : List S36) (q : Nat) (c : Int) (hq : q ≤ s.size) (hs : s.size ≤ 140737488355328) : Ev (fun k => meta_Parse.l0 k s l (s.extract q s.size) true c) (l, (q : Int), 0) := by
  refine Ev.step (f := fun _ => some (l, (q : Int), 0)) (fun k => ?_) (Ev.now _)
  simp only [meta_Parse.l0]
  rw [if_pos trivial, size_tail, w64 _ (by omega) (by omega)]
  congr 3
  omega
theorem len3_in (s : ByteArray) (p : Nat) : 0 ≤ len3 s p ∧ len3 s p < 16777216 := by
  have hz : (s.extract (p + 1) (p + 4)).size ≤ 3 := by rw [ByteArray.size_extract]; omega
  have h := fb_in (s.extract (p + 1) (p + 4)) (by omega)
  have h2 : (256 : Int) ^ (s.extract (p + 1) (p + 4)).size ≤ 16777216 := by
    rcases (show (s.extract (p + 1) (p + 4)).size = 0 ∨ (s.extract (p + 1) (p + 4)).size = 1 ∨ (s.extract (p + 1) (p + 4)).size = 2 ∨ (s.extract (p + 1) (p + 4)).size = 3 by omega) with e | e | e | e <;> rw [e] <;> decide
  unfold len3
  omega
theorem parse_l0 (s : ByteArray) (hs : s.size ≤ 140737488355328) : ∀ (d p : Nat) (l : List S36) (c : Int), p ≤ s.size → s.size - p < d → c ≤ 1 → -1 ≤ c → l.length ≤ 1024 →
    Ev (fun k => meta_Parse.l0 k s l (s.extract p s.size) false c) (prs s d l p c)
  | 0, p, l, c, hp, hd, h1, h0, hl => by omega
  | d + 1, p, l, c, hp, hd, h1, h0, hl => by
    have hz := size_tail s p
    have hbad : Ev (fun k => meta_Parse.j1 k s l (s.extract p s.size) c true) ([], 0, 2) := by
      refine Ev.step (f := fun _ => some ([], 0, 2)) (fun k => ?_) (Ev.now _)
      simp only [meta_Parse.j1]
      rw [if_pos trivial]
    unfold prs
    by_cases h4 : s.size < p + 4
    · rw [if_pos h4]
      refine Ev.step (fun k => ?_) hbad
      simp only [meta_Parse.l0]
      rw [if_neg (by decide), if_pos (by rw [hz]; omega)]
    · rw [if_neg h4]
      have e14 : (s.extract p s.size).extract 1 4 = s.extract (p + 1) (p + 4) := extract_mid s p 1 4 (by omega)
      have hev : Ev (fun k => bytes_FromBe.f k (s.extract (p + 1) (p + 4))) (len3 s p) := Be.FromBe_ev _
      have hn := len3_in s p
      have hw : wrap64 (((s.extract p s.size).size : Int) - 4) = (s.size : Int) - ((p + 4 : Nat) : Int) := by rw [hz, w64 _ (by omega) (by omega)]; omega
      refine Ev.step (f := fun k => (bytes_FromBe.f k (s.extract (p + 1) (p + 4))).bind fun t => meta_Parse.j1 k s l (s.extract p s.size) c (decide (t > (s.size : Int) - ((p + 4 : Nat) : Int)))) (fun k => ?_) (Ev.bind hev ?_)
      · simp only [meta_Parse.l0]
        rw [if_neg (by decide), if_neg (by rw [hz]; omega), if_pos (by decide), if_pos (by rw [hz]; omega), e14, hw]
      · by_cases hlong : (s.size : Int) - ((p + 4 : Nat) : Int) < len3 s p
        · rw [if_pos hlong, decide_eq_true hlong]
          exact hbad
        · rw [if_neg hlong, decide_eq_false hlong]
          have hb0 : bt (s.extract p s.size) 0 = bt s (p : Nat) := bt_extract s p s.size 0 (Nat.le_refl _) (by omega)
          have hbi := bt_in s (p : Nat)
          have ht : wrap64 (Go.bits .and .u8 (bt s (p : Nat)) 127) = typ s p := and_u8 _ hbi
          have hbd : (s.extract p s.size).extract 4 (4 + (len3 s p).toNat) = body s p := by
            rw [extract_mid s p 4 (4 + (len3 s p).toNat) (by omega)]
            unfold body
            rw [Nat.add_assoc p 4]
          have hrs : (s.extract p s.size).extract (4 + (len3 s p).toNat) (s.extract p s.size).size = s.extract (p + 4 + (len3 s p).toNat) s.size := by
            rw [extract_tail s p _ hp, Nat.add_assoc p 4]
          have hq : p + 4 + (len3 s p).toNat ≤ s.size := by omega
          have ih := fun l' c' (hl' : l'.length ≤ 1024) (hc1 : c' ≤ 1) (hc0 : -1 ≤ c') => parse_l0 s hs d (p + 4 + (len3 s p).toNat) l' c' hq (by omega) hc1 hc0 hl'
          have hlast := fun l' c' => parse_last s l' (p + 4 + (len3 s p).toNat) c' hq hs
          have h4n : wrap64 (4 + len3 s p) = ((4 + (len3 s p).toNat : Nat) : Int) := by rw [w64 _ (by omega) (by omega)]; omega
          have hcm : com c (typ s p) ≤ 2 ∧ -1 ≤ com c (typ s p) := by unfold com; split <;> omega
          have hj2 := parse_j2 s l (s.extract (p + 4 + (len3 s p).toNat) s.size) (decide (127 < bt s (p : Nat))) (com c (typ s p)) (typ s p) (body s p) hcm.1 hl
            (if 127 < bt s (p : Nat) then (l ++ [⟨typ s p, body s p⟩], ((p + 4 + (len3 s p).toNat : Nat) : Int), 0) else prs s d (l ++ [⟨typ s p, body s p⟩]) (p + 4 + (len3 s p).toNat) (com c (typ s p))) (by
              intro hb hl2 _
              have hc1 : com c (typ s p) ≤ 1 := by
                unfold bad at hb
                simp at hb
                omega
              by_cases hla : 127 < bt s (p : Nat)
              · rw [if_pos hla, decide_eq_true hla]
                exact hlast _ _
              · rw [if_neg hla, decide_eq_false hla]
                exact ih _ _ (by rw [List.length_append, List.length_singleton]; omega) hc1 hcm.2)
          refine Ev.step (f := fun k => (bytes_FromBe.f k (s.extract (p + 1) (p + 4))).bind fun t => if 0 < ((s.extract p s.size).size : Int) then (if 4 ≤ wrap64 (4 + t) then (if wrap64 (4 + t) ≤ ((s.extract p s.size).size : Int) then (if 0 ≤ wrap64 (4 + t) then
              (if wrap64 (Go.bits .and .u8 (bt (s.extract p s.size) 0) 127) = 4 then meta_Parse.j2 k s l ((s.extract p s.size).extract (wrap64 (4 + t)).toNat (s.extract p s.size).size) (decide (bt (s.extract p s.size) 0 > 127)) (wrap64 (c + 1)) (wrap64 (Go.bits .and .u8 (bt (s.extract p s.size) 0) 127)) ((s.extract p s.size).extract 4 (wrap64 (4 + t)).toNat)
               else meta_Parse.j2 k s l ((s.extract p s.size).extract (wrap64 (4 + t)).toNat (s.extract p s.size).size) (decide (bt (s.extract p s.size) 0 > 127)) c (wrap64 (Go.bits .and .u8 (bt (s.extract p s.size) 0) 127)) ((s.extract p s.size).extract 4 (wrap64 (4 + t)).toNat)) else none) else none) else none) else none) (fun k => ?_) (Ev.bind hev ?_)
          · simp only [meta_Parse.j1]
            rw [if_neg (by decide), if_pos (by decide), if_pos (by rw [hz]; omega), e14]
          · refine Ev.congr (fun k => ?_) hj2
            rw [if_pos (by rw [hz]; omega), h4n, if_pos (by omega), if_pos (by rw [hz]; omega), if_pos (by omega), hb0, ht, Int.toNat_natCast, hrs, hbd]
            unfold com
            by_cases h44 : typ s p = 4
            · rw [if_pos h44, if_pos h44, w64 (c + 1) (by omega) (by omega)]
            · rw [if_neg h44, if_neg h44]
def parseF (s : ByteArray) : List S36 × Int × Int := prs s (s.size + 1) [] 0 0
theorem parse_ev (s : ByteArray) (hs : s.size ≤ 140737488355328) : Ev (fun k => meta_Parse.f k s) (parseF s) := by
  have := parse_l0 s hs (s.size + 1) 0 [] 0 (by omega) (by omega) (by omega) (by omega) (by simp)
  rw [show s.extract 0 s.size = s from ByteArray.extract_zero_size] at this
  exact this
theorem xparse_j2 (s : ByteArray) (l : List S36) (q : Nat) (c h t : Int) (b : ByteArray) (flag : Bool) (hl : l.length ≤ 1024) (r : List S36 × Int × Int)
    (hnext : flag = false → l.length ≠ 1024 → checkF t b = 0 → ¬ h > 127 → Ev (fun k => lacquerref13_Parse.l0 k s (l ++ [⟨t, b⟩]) (q : Nat) c) r) :
    Ev (fun k => lacquerref13_Parse.j2 k s l (q : Nat) c h flag t b) (if flag = true then ([], 0, 2) else if l.length = 1024 then ([], 0, 5) else if checkF t b = 0 then (if 127 < h then (l ++ [⟨t, b⟩], (q : Int), 0) else r) else ([], 0, checkF t b)) := by
  by_cases hf : flag = true
  · rw [if_pos hf]
    refine Ev.step (f := fun _ => some ([], 0, 2)) (fun k => ?_) (Ev.now _)
    simp only [lacquerref13_Parse.j2]
    rw [if_pos hf]
  · rw [if_neg hf]
    by_cases h1 : l.length = 1024
    · rw [if_pos h1]
      refine Ev.step (f := fun _ => some ([], 0, 5)) (fun k => ?_) (Ev.now _)
      simp only [lacquerref13_Parse.j2]
      rw [if_neg hf, if_pos (by omega)]
    · rw [if_neg h1]
      refine Ev.step (f := fun k => (lacquerref13_Check.f k t b).bind fun z => if z = 0 then (if l.length < 5864062014805 then ((some (l ++ [⟨t, b⟩])).bind fun y => if h > 127 then some (y, (q : Int), 0) else lacquerref13_Parse.l0 k s y (q : Nat) c) else none) else some ([], 0, z)) (fun k => ?_) ?_
      · simp only [lacquerref13_Parse.j2]
        rw [if_neg hf, if_neg (by omega)]
      · refine Ev.bind (xcheck_ev t b) ?_
        by_cases h0 : checkF t b = 0
        · rw [if_pos h0]
          by_cases hh : h > 127
          · rw [if_pos hh]
            refine Ev.congr (f := fun _ => some (l ++ [⟨t, b⟩], (q : Int), 0)) (fun k => ?_) (Ev.now _)
            show (if checkF t b = 0 then _ else _) = _
            rw [if_pos h0, if_pos (by omega), Option.bind_some, if_pos hh]
          · rw [if_neg hh]
            refine Ev.congr (fun k => ?_) (hnext (Bool.eq_false_iff.mpr hf) h1 h0 hh)
            show (if checkF t b = 0 then _ else _) = _
            rw [if_pos h0, if_pos (by omega), Option.bind_some, if_neg hh]
        · rw [if_neg h0]
          refine Ev.congr (f := fun _ => some ([], 0, checkF t b)) (fun k => ?_) (Ev.now _)
          show (if checkF t b = 0 then _ else _) = _
          rw [if_neg h0]
theorem xparse_j1 (s : ByteArray) (l : List S36) (q : Nat) (c h t : Int) (b : ByteArray) (hl : l.length ≤ 1024) (r : List S36 × Int × Int)
    (hnext : bad l c t = false → l.length ≠ 1024 → checkF t b = 0 → ¬ h > 127 → Ev (fun k => lacquerref13_Parse.l0 k s (l ++ [⟨t, b⟩]) (q : Nat) c) r) :
    Ev (fun k => lacquerref13_Parse.j1 k s l (q : Nat) c h t b) (nxt l c t b (if 127 < h then (l ++ [⟨t, b⟩], (q : Int), 0) else r)) := by
  have h2 := xparse_j2 s l q c h t b (bad l c t) hl r hnext
  refine Ev.step (fun k => ?_) h2
  simp only [lacquerref13_Parse.j1]
  by_cases h1 : ((t == 0) != ((l.length : Int) == 0)) = true
  · rw [if_pos h1]
    have : bad l c t = true := by
      unfold bad
      rw [eq0, eqz] at h1
      rw [show (decide (l.length = 0) != decide (t = 0)) = true by revert h1; cases decide (l.length = 0) <;> cases decide (t = 0) <;> simp]
      simp
    rw [this]
  · rw [if_neg h1]
    have h3 : (decide (l.length = 0) != decide (t = 0)) = false := by
      rw [eq0, eqz] at h1
      revert h1
      cases decide (l.length = 0) <;> cases decide (t = 0) <;> simp
    by_cases h4 : t = 127
    · rw [if_pos h4]
      have : bad l c t = true := by unfold bad; rw [decide_eq_true h4]; rfl
      rw [this]
    · rw [if_neg h4]
      have : bad l c t = decide (c > 1) := by
        unfold bad
        rw [decide_eq_false h4, h3, Bool.or_false, Bool.false_or]
      rw [this]
theorem xparse_l0 (s : ByteArray) (hs : s.size ≤ 140737488355328) : ∀ (d p : Nat) (l : List S36) (c : Int), p ≤ s.size → s.size - p < d → c ≤ 1 → -1 ≤ c → l.length ≤ 1024 →
    Ev (fun k => lacquerref13_Parse.l0 k s l (p : Nat) c) (prs s d l p c)
  | 0, p, l, c, hp, hd, h1, h0, hl => by omega
  | d + 1, p, l, c, hp, hd, h1, h0, hl => by
    have e4 : wrap64 ((p : Int) + 4) = ((p + 4 : Nat) : Int) := by rw [w64 _ (by omega) (by omega)]; omega
    have e1 : wrap64 ((p : Int) + 1) = ((p + 1 : Nat) : Int) := by rw [w64 _ (by omega) (by omega)]; omega
    unfold prs
    by_cases h4 : s.size < p + 4
    · rw [if_pos h4]
      refine Ev.step (f := fun _ => some ([], 0, 2)) (fun k => ?_) (Ev.now _)
      simp only [lacquerref13_Parse.l0]
      rw [e4, if_pos (by omega)]
    · rw [if_neg h4]
      have hev : Ev (fun k => lacquerref02_FromBe.f k (s.extract (p + 1) (p + 4))) (len3 s p) := Be.FromBeR_ev _
      have hn := len3_in s p
      have hbi := bt_in s (p : Nat)
      have hwb : wrap64 (bt s (p : Nat)) = bt s (p : Nat) := w64 _ (by omega) (by omega)
      have ht : Go.bits .and .i64 (bt s (p : Nat)) 127 = typ s p := and_64 _
      have hsub : wrap64 ((s.size : Int) - ((p + 4 : Nat) : Int)) = (s.size : Int) - ((p + 4 : Nat) : Int) := w64 _ (by omega) (by omega)
      refine Ev.step (f := fun k => (lacquerref02_FromBe.f k (s.extract (p + 1) (p + 4))).bind fun t => if t > (s.size : Int) - ((p + 4 : Nat) : Int) then some ([], 0, 2) else if (0 : Int) ≤ ((p + 4 : Nat) : Int) then (if ((p + 4 : Nat) : Int) ≤ wrap64 (((p + 4 : Nat) : Int) + t) then (if wrap64 (((p + 4 : Nat) : Int) + t) ≤ (s.size : Int) then
          (if typ s p = 4 then lacquerref13_Parse.j1 k s l (wrap64 (((p + 4 : Nat) : Int) + t)) (wrap64 (c + 1)) (bt s (p : Nat)) (typ s p) (s.extract (p + 4) (wrap64 (((p + 4 : Nat) : Int) + t)).toNat)
           else lacquerref13_Parse.j1 k s l (wrap64 (((p + 4 : Nat) : Int) + t)) c (bt s (p : Nat)) (typ s p) (s.extract (p + 4) (wrap64 (((p + 4 : Nat) : Int) + t)).toNat)) else none) else none) else none) (fun k => ?_) (Ev.bind hev ?_)
      · simp only [lacquerref13_Parse.l0]
        rw [e4, e1, if_neg (by omega), if_pos (by omega), if_pos (by omega), if_pos (by omega), if_pos (by omega), if_pos (by omega), Int.toNat_natCast, Int.toNat_natCast, hsub, hwb, ht]
      · by_cases hlong : (s.size : Int) - ((p + 4 : Nat) : Int) < len3 s p
        · rw [if_pos hlong]
          exact Ev.congr (f := fun _ => some ([], 0, 2)) (fun k => if_pos hlong) (Ev.now _)
        · rw [if_neg hlong]
          have hq : p + 4 + (len3 s p).toNat ≤ s.size := by omega
          have hw : wrap64 (((p + 4 : Nat) : Int) + len3 s p) = ((p + 4 + (len3 s p).toNat : Nat) : Int) := by rw [w64 _ (by omega) (by omega)]; omega
          have hcm : com c (typ s p) ≤ 2 ∧ -1 ≤ com c (typ s p) := by unfold com; split <;> omega
          have hj := xparse_j1 s l (p + 4 + (len3 s p).toNat) (com c (typ s p)) (bt s (p : Nat)) (typ s p) (body s p) hl (prs s d (l ++ [⟨typ s p, body s p⟩]) (p + 4 + (len3 s p).toNat) (com c (typ s p))) (by
              intro hb hl2 _ _
              have hc1 : com c (typ s p) ≤ 1 := by
                unfold bad at hb
                simp at hb
                omega
              exact xparse_l0 s hs d _ _ _ hq (by omega) hc1 hcm.2 (by rw [List.length_append, List.length_singleton]; omega))
          refine Ev.congr (fun k => ?_) hj
          rw [if_neg hlong, if_pos (by omega), hw, if_pos (by omega), if_pos (by omega), Int.toNat_natCast]
          unfold com
          by_cases h44 : typ s p = 4
          · rw [if_pos h44, if_pos h44, w64 (c + 1) (by omega) (by omega)]
            rfl
          · rw [if_neg h44, if_neg h44]
            rfl
theorem xparse_ev (s : ByteArray) (hs : s.size ≤ 140737488355328) : Ev (fun k => lacquerref13_Parse.f k s) (parseF s) :=
  xparse_l0 s hs (s.size + 1) 0 [] 0 (by omega) (by omega) (by omega) (by omega) (by simp)
end Go.Proofs.Ytgihacaegmpggaa.Plain

/- The plain law of layer 13: two lists of blocks; MetaParses. -/
namespace Go.Proofs.Ytgihacaegmpggaa.Plain
open Go.RowKit Go.Proofs.Ytgihacaegmpggaa Go.Proofs.Ytgihacaegmpggaa.R Go.Proofs.Ytgihacaegmpggaa.Be Go.Proofs.YtgihacaegmpggaaW.PrintWords Go.Proofs.YtgihacaegmpggaaW.PrintLast Go.Proofs.YtgihacaegmpggaaW.PrintMore
set_option linter.unusedVariables false
set_option linter.unusedSimpArgs false

def neB (a b : S36) : Bool := !(a.f0 == b.f0) || !(a.f1.toList == b.f1.toList)
theorem neB_iff (a b : S36) : neB a b = true ↔ a ≠ b := by
  unfold neB
  obtain ⟨a0, a1⟩ := a
  obtain ⟨b0, b1⟩ := b
  constructor
  · intro h e
    injection e with e0 e1
    subst e0 e1
    simp at h
  · intro h
    by_cases e0 : a0 = b0
    · by_cases e1 : a1.toList = b1.toList
      · exact absurd (by rw [e0, toList_inj e1]) h
      · simp [e1]
    · simp [e0]
def sl (l m : List S36) : Nat → Nat → Bool
  | 0, _ => true
  | d + 1, i => if neB (rd_T36 l i) (rd_T36 m i) = true then false else sl l m d (i + 1)
def sameB (l m : List S36) : Bool := if l.length = m.length then sl l m l.length 0 else false
theorem same_l0 (l m : List S36) (he : l.length = m.length) (hl : l.length ≤ 140737488355328) : ∀ (d i : Nat), i + d = l.length → Ev (fun k => lacquerref13_Same.l0 k l m (i : Nat)) (sl l m d i)
  | 0, i, hi => by
    refine Ev.step (f := fun _ => some true) (fun k => ?_) (Ev.now _)
    simp only [lacquerref13_Same.l0]
    rw [if_neg (by omega)]
  | d + 1, i, hi => by
    unfold sl
    by_cases h : neB (rd_T36 l i) (rd_T36 m i) = true
    · rw [if_pos h]
      refine Ev.step (f := fun _ => some false) (fun k => ?_) (Ev.now _)
      simp only [lacquerref13_Same.l0]
      unfold neB at h
      rw [if_pos (by omega), if_pos (by omega), if_pos (by omega), if_pos h]
    · rw [if_neg h]
      refine Ev.step (fun k => ?_) (same_l0 l m he hl d (i + 1) (by omega))
      simp only [lacquerref13_Same.l0]
      unfold neB at h
      rw [if_pos (by omega), if_pos (by omega), if_pos (by omega), if_neg h, w64 ((i : Int) + 1) (by omega) (by omega)]
      rfl
theorem same_ev (l m : List S36) (hl : l.length ≤ 140737488355328) : Ev (fun k => lacquerref13_Same.f k l m) (sameB l m) := by
  unfold sameB
  by_cases he : l.length = m.length
  · rw [if_pos he]
    refine Ev.congr (fun k => ?_) (same_l0 l m he hl l.length 0 (by omega))
    unfold lacquerref13_Same.f
    rw [if_pos (by omega)]
    rfl
  · rw [if_neg he]
    refine Ev.congr (f := fun _ => some false) (fun k => ?_) (Ev.now _)
    unfold lacquerref13_Same.f
    rw [if_neg (by omega)]
theorem sl_refl (l : List S36) : ∀ d i, sl l l d i = true
  | 0, _ => rfl
  | d + 1, i => by
    unfold sl
    rw [if_neg (fun h => (neB_iff _ _).1 h rfl)]
    exact sl_refl l d (i + 1)
theorem sameB_refl (l : List S36) : sameB l l = true := by
  unfold sameB
  rw [if_pos rfl]
  exact sl_refl l _ _
theorem nxt_len (l : List S36) (c t : Int) (b : ByteArray) (r : List S36 × Int × Int) (h : l.length ≠ 1024 → r.1.length ≤ 1024) : (nxt l c t b r).1.length ≤ 1024 := by
  unfold nxt
  split
  · simp
  · split
    · simp
    · rename_i h2
      split
      · exact h h2
      · simp
theorem prs_len (s : ByteArray) : ∀ d l p c, l.length ≤ 1024 → (prs s d l p c).1.length ≤ 1024
  | 0, l, p, c, hl => by simp [prs]
  | d + 1, l, p, c, hl => by
    unfold prs
    split
    · simp
    · split
      · simp
      · refine nxt_len _ _ _ _ _ (fun h => ?_)
        split
        · simp
          omega
        · exact prs_len s d _ _ _ (by simp; omega)
theorem parses_ev (s : ByteArray) (hs : s.size ≤ 140737488355328) : Ev (fun k => lacquerlaw13_MetaParses.f k s) true := by
  refine Ev.bind (parse_ev s hs) (Ev.bind (xparse_ev s hs) ?_)
  have hlen : (parseF s).1.length ≤ 1024 := prs_len s _ _ _ _ (by simp)
  have := same_ev (parseF s).1 (parseF s).1 (by omega)
  rw [sameB_refl] at this
  refine Ev.bind this ?_
  refine Ev.congr (fun k => ?_) (Ev.bind awake_ev (Ev.now true))
  rw [if_pos rfl, if_pos rfl, if_pos rfl]
end Go.Proofs.Ytgihacaegmpggaa.Plain

namespace Go.Proofs.Ytgihacaegmpggaa.Pure
open Go.RowKit Go.Proofs.Ytgihacaegmpggaa.R Go.Proofs.YtgihacaegmpggaaW.PrintWords Go.Proofs.YtgihacaegmpggaaW.PrintLast

theorem MetaParses : lacquerlaw13_MetaParses.Pure := fun s hs => (Plain.parses_ev s (by omega)).rounds
end Go.Proofs.Ytgihacaegmpggaa.Pure
