/- The plain law of layer 18: what an encoder gives is read back. -/
import Derived.Test.YtoologbaoifheaaMathA
namespace Go.Proofs.Ytoologbaoifheaa.Math
open Go.RowKit Go.Proofs.Ytoologbaoifheaa Go.Proofs.Ytoologbaoifheaa.Hand Go.Proofs.YtoologbaoifheaaW.PrintWords
set_option linter.unusedVariables false
set_option linter.unusedSimpArgs false

theorem low_shifts (s : Enc) (h0 : 0 ≤ s.low) : (shifts 4 s).low = 0 := by
  have e1 : (shifts 1 s).low = s.low * 256 % 4294967296 := shiftE_low _
  have e2 : (shifts 2 s).low = (shifts 1 s).low * 256 % 4294967296 := shiftE_low _
  have e3 : (shifts 3 s).low = (shifts 2 s).low * 256 % 4294967296 := shiftE_low _
  have e4 : (shifts 4 s).low = (shifts 3 s).low * 256 % 4294967296 := shiftE_low _
  omega
theorem shifts_fits (s : Enc) (h : Fits s) : ∀ k, T (shifts k s) = T s * 256 ^ k ∧ 0 ≤ (shifts k s).held ∧ (shifts k s).held < 256 ∧ (∀ x ∈ (shifts k s).out, 0 ≤ x ∧ x < 256)
  | 0 => ⟨by simp [shifts], h.good.held0, h.good.held1, h.bytes⟩
  | k + 1 => by
    obtain ⟨a, b, c, d⟩ := shifts_fits s h k
    obtain ⟨e, f, g, i⟩ := shifts_ok s h.good k
    have hlow : (shifts k s).held = 255 → (shifts k s).low < 4294967296 := by
      intro q
      cases k with
      | zero =>
        have := h.held q
        have := h.good.wid0
        show s.low < _
        omega
      | succ k =>
        have : (shifts (k + 1) s).low = (shifts k s).low * 256 % 4294967296 := shiftE_low _
        omega
    have hlt : (shifts k s).low < 8589934592 := by
      cases k with
      | zero =>
        have := h.good.low1
        have := h.good.wid0
        show s.low < _
        omega
      | succ k =>
        have : (shifts (k + 1) s).low = (shifts k s).low * 256 % 4294967296 := shiftE_low _
        omega
    have hT : T (shifts (k + 1) s) = T (shifts k s) * 256 := T_shift _ e hlt b c g hlow
    have hh := shiftE_held (shifts k s) b c
    exact ⟨by rw [hT, a, Int.pow_succ, Int.mul_assoc], hh.1, hh.2, out_shift _ d⟩
/-- What Finish lays: the great number, as bytes. -/
theorem finish_num (s : Enc) (h : Fits s) : num (shifts 5 s).out = T s ∧ (shifts 5 s).out.length = sizeE s + 4 ∧ (∀ x ∈ (shifts 5 s).out, 0 ≤ x ∧ x < 256) := by
  obtain ⟨a, b, c, d⟩ := shifts_fits s h 5
  obtain ⟨e, f, g, i⟩ := shifts_ok s h.good 5
  have hl := low_shifts s h.good.low0
  have h4 := shifts_fits s h 4
  have ho4 := shifts_ok s h.good 4
  have hs : shifts 5 s = onE (carryE (shifts 4 s)) := by
    show shiftE (shifts 4 s) = _
    unfold shiftE
    rw [if_pos (.inl (by rw [hl]; decide))]
  have hb : bodyE (shifts 5 s) = (shifts 5 s).out ++ [0] := by
    rw [hs]
    unfold bodyE onE carryE
    simp [hl]
  have hlow : (shifts 5 s).low = 0 := by
    have : (shifts 5 s).low = (shifts 4 s).low * 256 % 4294967296 := shiftE_low _
    rw [this, hl]
    rfl
  have hc : (shifts 5 s).count = 1 := by rw [hs]; rfl
  refine ⟨?_, ?_, d⟩
  · unfold T at a
    rw [hb, num_snoc, hlow] at a
    have : T s * 256 ^ 5 = T s * 1099511627776 := by simp
    unfold T at this ⊢
    omega
  · unfold sizeE at i
    rw [hc] at i
    unfold sizeE
    omega
/-- The number of a text's first bytes. -/
def pre (s : ByteArray) (k : Nat) : Int := num ((bytesOf s).take k)
theorem pre_succ (s : ByteArray) (k : Nat) (h : k < s.size) : pre s (k + 1) = pre s k * 256 + bt s (k : Nat) := by
  unfold pre
  rw [List.take_succ_eq_append_getElem (by rw [bytesOf_length]; exact h), num_snoc]
  congr 1
  rw [← rd_bytesOf]
  simp [rd, bytesOf_length, h]
theorem pre_back (s : ByteArray) (k : Nat) : ∀ j, k + j ≤ s.size → pre s k * 256 ^ j ≤ pre s (k + j) ∧ pre s (k + j) < (pre s k + 1) * 256 ^ j
  | 0, _ => ⟨by simp, by simp; omega⟩
  | j + 1, h => by
    obtain ⟨a, b⟩ := pre_back s k j (by omega)
    have hb := bt_lt s ((k + j : Nat) : Int)
    have e := pre_succ s (k + j) (by omega)
    rw [show k + (j + 1) = k + j + 1 by omega, e, Int.pow_succ, ← Int.mul_assoc, ← Int.mul_assoc]
    omega
/-- A decoder that stands where the encoder stood. -/
structure Sim (E : Enc) (d : Dec) : Prop where
  bad : d.bad = false
  width : d.width = E.width
  pos : d.pos = ((sizeE E + 4 : Nat) : Int)
  code : d.code = pre d.s (sizeE E + 4) - T E
/-- The whole text begins with F's number. -/
def Ends (F : Enc) (s : ByteArray) : Prop := sizeE F + 4 ≤ s.size ∧ pre s (sizeE F + 4) = T F
theorem code_in (E F : Enc) (d : Dec) (h : Sim E d) (hn : Nest E F) (he : Ends F d.s) (hF : 1 ≤ F.width) : 0 ≤ d.code ∧ d.code < E.width := by
  obtain ⟨j, a, b, c⟩ := hn
  obtain ⟨e, f⟩ := he
  obtain ⟨p, q⟩ := pre_back d.s (sizeE E + 4) j (by omega)
  rw [show sizeE E + 4 + j = sizeE F + 4 by omega, f] at p q
  have hp : (0 : Int) < 256 ^ j := Int.pow_pos (by decide)
  have h1 : T E < pre d.s (sizeE E + 4) + 1 := by
    rcases Int.lt_or_le (T E) (pre d.s (sizeE E + 4) + 1) with h | h
    · exact h
    · have := Int.mul_le_mul_of_nonneg_right h (Int.le_of_lt hp)
      omega
  have h2 : pre d.s (sizeE E + 4) < T E + E.width := by
    rcases Int.lt_or_le (pre d.s (sizeE E + 4)) (T E + E.width) with h | h
    · exact h
    · have := Int.mul_le_mul_of_nonneg_right h (Int.le_of_lt hp)
      omega
  rw [h.code]
  omega
theorem sim_byte (E F : Enc) (d : Dec) (h : Sim E d) (hf : Fits E) (hw : E.width / 16777216 = 0) (hn : Nest (wideE E) F) (he : Ends F d.s) (hF : 1 ≤ F.width) : ¬ d.pos = d.s.size ∧ Sim (wideE E) (byteD d) := by
  have hc := code_in E F d h ((nest_wide E hf hw).trans hn) he hF
  have hT := (wide_fits E hf hw).2
  have hwd : (wideE E).width = E.width * 256 := shiftE_width _
  have hsz : sizeE (wideE E) = sizeE E + 1 := shiftE_size { E with width := E.width * 256 } hf.good.count
  obtain ⟨j, a, b, c⟩ := hn
  have hlt : sizeE E + 4 < d.s.size := by have := he.1; omega
  refine ⟨by rw [h.pos]; omega, h.bad, ?_, ?_, ?_⟩
  · show d.width * 256 = _
    rw [hwd, h.width]
  · show d.pos + 1 = _
    rw [hsz, h.pos]
    omega
  · show d.code % 16777216 * 256 + bt d.s d.pos = pre d.s _ - _
    rw [hsz, show sizeE E + 1 + 4 = sizeE E + 4 + 1 by omega, pre_succ d.s _ hlt, hT, h.pos, Int.emod_eq_of_lt hc.1 (by omega), h.code]
    omega
theorem sim_norm (F : Enc) (hF : 1 ≤ F.width) : ∀ (k : Nat) (E : Enc) (d : Dec), Sim E d → Fits E → 16777216 ≤ E.width * 256 ^ k → Nest (normE k E) F → Ends F d.s → (normD k d).1 = 0 ∧ Sim (normE k E) (normD k d).2 ∧ (normD k d).2.s = d.s
  | 0, E, d, h, _, _, _, _ => ⟨rfl, h, rfl⟩
  | k + 1, E, d, h, hf, hk, hn, he => by
    by_cases hw : E.width / 16777216 = 0
    · have e1 : normE (k + 1) E = normE k (wideE E) := by rw [normE, if_pos hw]
      have hwd : (wideE E).width = E.width * 256 := shiftE_width _
      have hk2 : 16777216 ≤ (wideE E).width * 256 ^ k := by rw [hwd, Int.mul_assoc, Int.mul_comm 256, ← Int.pow_succ]; exact hk
      have hfw := (wide_fits E hf hw).1
      rw [e1] at hn ⊢
      obtain ⟨p, q⟩ := sim_byte E F d h hf hw ((norm_fits k (wideE E) hfw hk2).2.2.trans hn) he hF
      have e2 : normD (k + 1) d = normD k (byteD d) := by rw [normD, if_pos (by rw [h.width]; exact hw), if_neg p]
      rw [e2]
      exact sim_norm F hF k (wideE E) (byteD d) q hfw hk2 hn he
    · rw [normE, if_neg hw, normD, if_neg (by rw [h.width]; exact hw)]
      exact ⟨rfl, h, rfl⟩
/-- A part is read where it was put. -/
theorem sim_take (f n t : Int) (E F : Enc) (d : Dec) (h : Sim E d) (hf : Fits E) (hw : 16777216 ≤ E.width) (hm : mayP f n t) (hn : Nest (putE f n t E) F) (he : Ends F d.s) (hF : 1 ≤ F.width) :
    (peekD d t).2 = 0 ∧ f ≤ (peekD d t).1 ∧ (peekD d t).1 < f + n ∧ (takeD f n t d).1 = 0 ∧ Sim (putE f n t E) (takeD f n t d).2 ∧ (takeD f n t d).2.s = d.s := by
  obtain ⟨pf, pT, _⟩ := part_fits f n t E hf hw hm
  obtain ⟨uf, uw, un⟩ := put_fits f n t E hf hw hm
  have hs : Sim (partE f n t E) (partD f n t d) := ⟨h.bad, by show d.width / t * n = E.width / t * n; rw [h.width], h.pos, by
    show d.code - d.width / t * f = pre d.s (sizeE E + 4) - T (partE f n t E)
    rw [pT, h.code, h.width]; omega⟩
  have hc := code_in (partE f n t E) F (partD f n t d) hs (un.trans hn) he hF
  have hc0 : 0 ≤ d.code - d.width / t * f := hc.1
  have hc1 : d.code - d.width / t * f < E.width / t * n := hc.2
  rw [h.width] at hc0 hc1
  obtain ⟨m1, m2, m3, m4, m5, m6⟩ := hm
  have r0 : 1 ≤ E.width / t := by
    have := Int.ediv_le_ediv (show (0 : Int) < t by omega) (show t ≤ E.width by omega)
    rwa [Int.ediv_self (by omega)] at this
  have q1 : f ≤ d.code / (E.width / t) := by
    rw [Int.le_ediv_iff_mul_le (by omega), Int.mul_comm]
    omega
  have q2 : d.code / (E.width / t) < f + n := by
    apply Int.ediv_lt_of_lt_mul (by omega)
    rw [Int.mul_comm, Int.mul_add]
    omega
  have hpk : peekD d t = (d.code / (E.width / t), 0) := by
    unfold peekD
    rw [if_neg (by omega), if_neg (by rw [h.bad]; decide), h.width, if_pos (by omega)]
  have htk : takeD f n t d = normD 3 (partD f n t d) := by
    unfold takeD
    rw [if_pos ⟨m1, m2, m3, m4, m5, m6⟩, if_neg (by rw [h.bad]; decide), hpk, if_neg (by show ¬ (d.code / (E.width / t) < f ∨ n ≤ d.code / (E.width / t) - f); omega)]
  obtain ⟨a, b, c⟩ := sim_norm F hF 3 (partE f n t E) (partD f n t d) hs pf (by have := pf.good.wid0; omega) hn he
  rw [hpk, htk]
  exact ⟨rfl, q1, q2, a, b, c⟩
end Go.Proofs.Ytoologbaoifheaa.Math
