/- Plain words of layer 1: what was written is read as it was. -/
import Derived.Test.YtlgkaegcocfhdaaHandF
import Derived.Test.YtlgkaegcocfhdaaHandK
namespace Go.Proofs.Ytlgkaegcocfhdaa.Hand
open Go.RowKit Go.Proofs.Ytlgkaegcocfhdaa.Q Go.Proofs.YtlgkaegcocfhdaaW.PrintWords Go.Proofs.YtlgkaegcocfhdaaW.PrintLast Go.Proofs.YtlgkaegcocfhdaaW.PrintMore
set_option linter.unusedVariables false
set_option linter.unusedSimpArgs false

structure Deed where
  k : Int
  w : Int
  n : Int
  u : Int
/-- A deed that is written without an error. -/
def okDeed (d : Deed) : Prop := if d.k = 0 then putP d.u.toNat d.w else if d.k = 1 then fitsP d.n d.w else if d.k = 2 then 0 ≤ d.n ∧ d.n ≤ 16777216 else if d.k = 3 then riceP d.n d.w else True
instance (d : Deed) : Decidable (okDeed d) := by unfold okDeed; infer_instance
def codeD (L : Nat) (d : Deed) : List Bool := if d.k = 0 then nbits d.u.toNat d.w.toNat else if d.k = 1 then nbits (wordN d.n) d.w.toNat else if d.k = 2 then List.replicate d.n.toNat false ++ [true] else if d.k = 3 then riceB d.n d.w.toNat else List.replicate (padN L) false
def addD (bs : List Bool) (d : Deed) : List Bool := bs ++ codeD bs.length d
def runD (xs : List Deed) (bs : List Bool) : List Bool := xs.foldl addD bs
theorem runD_snoc (xs : List Deed) (d : Deed) (bs : List Bool) : runD (xs ++ [d]) bs = addD (runD xs bs) d := by simp [runD]
theorem runD_ext (xs : List Deed) : ∀ bs, ∃ R, runD xs bs = bs ++ R := by
  induction xs with
  | nil => exact fun bs => ⟨[], by simp [runD]⟩
  | cons x xs ih =>
    intro bs
    obtain ⟨R, hR⟩ := ih (addD bs x)
    refine ⟨codeD bs.length x ++ R, ?_⟩
    rw [← List.append_assoc]
    exact hR
theorem code_length (L : Nat) (d : Deed) (h : okDeed d) : (codeD L d).length ≤ 16777300 := by
  unfold codeD
  unfold okDeed at h
  split
  · rename_i hk
    rw [if_pos hk] at h
    rw [nbits_length]
    have := h.2.1
    omega
  · rename_i hk
    rw [if_neg hk] at h
    split
    · rename_i hk1
      rw [if_pos hk1] at h
      rw [nbits_length]
      have := h.2.1
      omega
    · rename_i hk1
      rw [if_neg hk1] at h
      split
      · rename_i hk2
        rw [if_pos hk2] at h
        simp
        omega
      · rename_i hk2
        rw [if_neg hk2] at h
        split
        · rename_i hk3
          rw [if_pos hk3] at h
          obtain ⟨a, b, c⟩ := h
          unfold riceB
          rw [List.length_append, List.length_replicate, List.length_cons, nbits_length]
          generalize foldN d.n / 2 ^ d.w.toNat = q at c
          omega
        · rw [List.length_replicate]
          unfold padN
          omega
/-- A text that holds bits, and noughts up to a whole byte. -/
structure Holds (s : ByteArray) (F : List Bool) : Prop where
  bit : ∀ q, tb s q = F.getD q false
  len : F.length ≤ 8 * s.size
  end_ : 8 * s.size < F.length + 8
theorem bytesOf_nums (l : List Int) (h : ∀ x ∈ l, 0 ≤ x ∧ x < 256) : bytesOf (strOfNums l) = l := by
  unfold bytesOf strOfNums
  simp only [List.map_map]
  conv => rhs; rw [← List.map_id l]
  apply List.map_congr_left
  intro x hx
  have := h x hx
  simp
  omega
theorem size_nums (l : List Int) : (strOfNums l).size = l.length := by
  have : (strOfNums l).size = ((l.map fun n => UInt8.ofNat n.toNat).toArray).size := rfl
  rw [this, List.size_toArray, List.length_map]
theorem pack_in (bs : List Bool) : ∀ x ∈ pack bs, 0 ≤ x ∧ x < 256 := by
  intro x hx
  unfold pack at hx
  obtain ⟨j, hj, rfl⟩ := List.mem_map.1 hx
  have := val_lt ((bs.drop (8 * j)).take 8) 7
  rw [show (2 : Nat) ^ 7 = 128 from rfl, show (2 : Nat) ^ (7 + 1) = 256 from rfl] at this
  omega
theorem text_holds (F : List Bool) : Holds (strOfNums (pack F)) F := by
  refine ⟨fun q => ?_, ?_, ?_⟩
  · unfold tb
    rw [bytesOf_nums _ (pack_in F), bit_pack]
  · rw [size_nums, pack_length]; omega
  · rw [size_nums, pack_length]; omega
theorem bits_of {s : ByteArray} {F A C R : List Bool} (h : Holds s F) (e : F = A ++ C ++ R) : bitsAt s A.length C.length = C := by
  apply List.ext_getElem?
  intro i
  unfold bitsAt
  by_cases hi : i < C.length
  · rw [List.getElem?_map, List.getElem?_range hi, Option.map_some, h.bit, e, List.getD_eq_getElem?_getD, List.append_assoc, List.getElem?_append_right (by omega), List.getElem?_append_left (by omega), show A.length + i - A.length = i by omega, List.getElem?_eq_getElem hi]
    rfl
  · rw [List.getElem?_eq_none (by simp; omega), List.getElem?_eq_none (by omega)]
theorem zeros_is (s : ByteArray) : ∀ (n p m : Nat), (∀ i, i < n → tb s (p + i) = false) → tb s (p + n) = true → n < m → zeros s p m = n
  | 0, p, m, _, h1, hm => by
    obtain ⟨m, rfl⟩ : ∃ j, m = j + 1 := ⟨m - 1, by omega⟩
    rw [zeros, if_pos (by simpa using h1)]
  | n + 1, p, m, h0, h1, hm => by
    obtain ⟨m, rfl⟩ : ∃ j, m = j + 1 := ⟨m - 1, by omega⟩
    have hb : tb s p = false := by simpa using h0 0 (by omega)
    rw [zeros, if_neg (by rw [hb]; decide), zeros_is s n (p + 1) m (fun i hi => by have := h0 (i + 1) (by omega); rw [show p + 1 + i = p + (i + 1) by omega]; exact this) (by rw [show p + 1 + n = p + (n + 1) by omega]; exact h1) (by omega)]
theorem unary_of {s : ByteArray} {F A R : List Bool} {n : Nat} (h : Holds s F) (e : F = A ++ (List.replicate n false ++ [true]) ++ R) (hn : n ≤ 16777216) : unaryR s A.length = (n, 0, A.length + (n + 1)) := by
  have hlen : F.length = A.length + (n + 1) + R.length := by rw [e]; simp; omega
  have hz : zeros s A.length (8 * s.size - A.length) = n := by
    refine zeros_is s n A.length _ (fun i hi => ?_) ?_ (by have := h.len; omega)
    · rw [h.bit, e, List.getD_eq_getElem?_getD, List.append_assoc, List.getElem?_append_right (by omega), List.append_assoc, List.getElem?_append_left (by simp; omega), show A.length + i - A.length = i by omega, List.getElem?_replicate, if_pos hi]
      rfl
    · rw [h.bit, e, List.getD_eq_getElem?_getD, List.append_assoc, List.getElem?_append_right (by omega), List.append_assoc, List.getElem?_append_right (by simp), List.length_replicate, show A.length + n - A.length - n = 0 by omega]
      rfl
  unfold unaryR
  rw [hz, if_neg (by omega), if_neg (by have := h.len; omega)]
  rfl
theorem get_of {s : ByteArray} {F A C R : List Bool} (h : Holds s F) (e : F = A ++ C ++ R) (hC : C.length ≤ 64) : getR s A.length (C.length : Nat) = (natOf C, 0, A.length + C.length) := by
  have hlen : F.length = A.length + C.length + R.length := by rw [e]; simp; omega
  unfold getR
  rw [if_neg (by omega), if_neg (by have := h.len; omega), Int.toNat_natCast]
  unfold numAt
  rw [bits_of h e]
theorem sign_of (n : Int) (K : Nat) (h : fitsP n K) : signOf (wordN n % 2 ^ K) K = n := by
  obtain ⟨h1, h2, h3, h4⟩ := h
  have hK : (K : Int) - 1 = ((K - 1 : Nat) : Int) := by omega
  rw [hK, Int.toNat_natCast] at h3 h4
  have e1 : (2 : Int) ^ (K - 1) = ((2 ^ (K - 1) : Nat) : Int) := (Int.natCast_pow 2 (K - 1)).symm
  have e2 : 2 ^ K = 2 * 2 ^ (K - 1) := by
    have := Nat.pow_succ 2 (K - 1)
    rw [show (K - 1).succ = K by omega] at this
    omega
  have hd : (2 ^ K : Nat) ∣ 2 ^ 64 := Nat.pow_dvd_pow 2 (by omega)
  have hw : ((wordN n % 2 ^ K : Nat) : Int) = n % ((2 ^ K : Nat) : Int) := by
    rw [Int.natCast_emod]
    have : ((wordN n : Nat) : Int) = n % 18446744073709551616 := by unfold wordN; omega
    rw [this]
    exact Int.emod_emod_of_dvd n (show ((2 ^ K : Nat) : Int) ∣ ((2 ^ 64 : Nat) : Int) from Int.natCast_dvd_natCast.2 hd)
  have e3 : (2 : Int) ^ K = ((2 ^ K : Nat) : Int) := (Int.natCast_pow 2 K).symm
  unfold signOf
  rw [e3]
  rw [e1] at h3 h4
  generalize wordN n % 2 ^ K = y at hw ⊢
  rw [e2] at hw ⊢
  generalize 2 ^ (K - 1) = X at hw h3 h4 ⊢
  by_cases hn : 0 ≤ n
  · rw [Int.emod_eq_of_lt hn (by omega)] at hw
    rw [if_pos (by omega)]
    exact hw
  · have : n % ((2 * X : Nat) : Int) = n + ((2 * X : Nat) : Int) := by
      rw [← Int.add_emod_right, Int.emod_eq_of_lt (by omega) (by omega)]
    rw [this] at hw
    rw [if_neg (by omega)]
    omega
/-- The next deed is read as it was written. -/
theorem read_put {s : ByteArray} {F A R : List Bool} (d : Deed) (h : Holds s F) (e : F = A ++ codeD A.length d ++ R) (hk : d.k = 0) (ho : okDeed d) : getR s A.length d.w = (d.u.toNat, 0, A.length + (codeD A.length d).length) := by
  unfold okDeed at ho
  rw [if_pos hk] at ho
  have hc : codeD A.length d = nbits d.u.toNat d.w.toNat := by unfold codeD; rw [if_pos hk]
  rw [hc] at e ⊢
  have hl := nbits_length d.u.toNat d.w.toNat
  have := get_of h e (by rw [hl]; have := ho.2.1; omega)
  rw [hl, natOf_nbits, Nat.mod_eq_of_lt ho.2.2, Int.toNat_of_nonneg ho.1] at this
  rw [this, hl]
theorem read_signed {s : ByteArray} {F A R : List Bool} (d : Deed) (h : Holds s F) (e : F = A ++ codeD A.length d ++ R) (hk : d.k = 1) (ho : okDeed d) : signedR s A.length d.w = (d.n, 0, A.length + (codeD A.length d).length) := by
  unfold okDeed at ho
  rw [if_neg (by omega), if_pos hk] at ho
  have hc : codeD A.length d = nbits (wordN d.n) d.w.toNat := by unfold codeD; rw [if_neg (by omega), if_pos hk]
  rw [hc] at e ⊢
  have h1 := ho.1
  have h2 := ho.2.1
  have hl := nbits_length (wordN d.n) d.w.toNat
  have hg := get_of h e (by rw [hl]; omega)
  rw [hl, natOf_nbits, Int.toNat_of_nonneg (by omega)] at hg
  unfold signedR
  rw [if_neg (by omega), hg]
  rw [if_pos rfl, hl, sign_of d.n d.w.toNat (by rw [Int.toNat_of_nonneg (by omega)]; exact ho)]
theorem read_unary {s : ByteArray} {F A R : List Bool} (d : Deed) (h : Holds s F) (e : F = A ++ codeD A.length d ++ R) (hk : d.k = 2) (ho : okDeed d) : unaryR s A.length = (d.n.toNat, 0, A.length + (codeD A.length d).length) := by
  unfold okDeed at ho
  rw [if_neg (by omega), if_neg (by omega), if_pos hk] at ho
  have hc : codeD A.length d = List.replicate d.n.toNat false ++ [true] := by unfold codeD; rw [if_neg (by omega), if_neg (by omega), if_pos hk]
  rw [hc] at e ⊢
  rw [unary_of h e (by omega)]
  simp
theorem read_rice {s : ByteArray} {F A R : List Bool} (d : Deed) (h : Holds s F) (e : F = A ++ codeD A.length d ++ R) (hk : d.k = 3) (ho : okDeed d) : riceR s A.length d.w = (d.n, 0, A.length + (codeD A.length d).length) := by
  unfold okDeed at ho
  rw [if_neg (by omega), if_neg (by omega), if_neg (by omega), if_pos hk] at ho
  have hc : codeD A.length d = riceB d.n d.w.toNat := by unfold codeD; rw [if_neg (by omega), if_neg (by omega), if_neg (by omega), if_pos hk]
  rw [hc] at e ⊢
  obtain ⟨h1, h2, h3⟩ := ho
  obtain ⟨K, hK⟩ : ∃ K : Nat, d.w.toNat = K := ⟨_, rfl⟩
  have hw : d.w = (K : Int) := by omega
  rw [hK] at h3 e ⊢
  have hq := Nat.div_add_mod (foldN d.n) (2 ^ K)
  have hu : F = A ++ (List.replicate (foldN d.n / 2 ^ K) false ++ [true]) ++ (nbits (foldN d.n) K ++ R) := by
    rw [e]
    unfold riceB
    simp
  have hA : F = (A ++ (List.replicate (foldN d.n / 2 ^ K) false ++ [true])) ++ nbits (foldN d.n) K ++ R := by rw [hu]; simp
  have r1 := unary_of h hu h3
  have hl := nbits_length (foldN d.n) K
  have r2 := get_of h hA (by rw [hl]; omega)
  have hla : (A ++ (List.replicate (foldN d.n / 2 ^ K) false ++ [true])).length = A.length + (foldN d.n / 2 ^ K + 1) := by simp
  rw [hla, hl, natOf_nbits] at r2
  unfold riceR
  rw [if_neg (by omega), r1]
  rw [if_pos rfl, hw, r2]
  rw [if_pos rfl, Int.toNat_natCast]
  have hlen : (riceB d.n K).length = foldN d.n / 2 ^ K + 1 + K := by unfold riceB; simp [nbits_length]; omega
  rw [hlen, show foldN d.n / 2 ^ K * 2 ^ K + foldN d.n % 2 ^ K = foldN d.n by rw [Nat.mul_comm]; exact hq, unfold_fold]
  refine Prod.ext rfl (Prod.ext rfl ?_)
  show A.length + (foldN d.n / 2 ^ K + 1) + K = A.length + (foldN d.n / 2 ^ K + 1 + K)
  omega
theorem natOf_noughts : ∀ n, natOf (List.replicate n false) = 0
  | 0 => rfl
  | n + 1 => by rw [List.replicate_succ', natOf_snoc, natOf_noughts n]; rfl
theorem read_align {s : ByteArray} {F A R : List Bool} (d : Deed) (h : Holds s F) (e : F = A ++ codeD A.length d ++ R) (h0 : d.k ≠ 0) (h1 : d.k ≠ 1) (h2 : d.k ≠ 2) (h3 : d.k ≠ 3) : alignR s A.length = (true, A.length + (codeD A.length d).length) := by
  have hc : codeD A.length d = List.replicate (padN A.length) false := by unfold codeD; rw [if_neg h0, if_neg h1, if_neg h2, if_neg h3]
  rw [hc] at e ⊢
  have hb := bits_of h e
  rw [List.length_replicate] at hb ⊢
  unfold alignR
  unfold padN at hb ⊢
  unfold numAt
  rw [hb, natOf_noughts]
  rfl
end Go.Proofs.Ytlgkaegcocfhdaa.Hand
