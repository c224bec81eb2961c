/- The plain law of layer 18: an encoder's numbers as one great number. -/
import Derived.Test.YtoologbaoifheaaHandK
namespace Go.Proofs.Ytoologbaoifheaa.Math
open Go.RowKit Go.Proofs.Ytoologbaoifheaa Go.Proofs.Ytoologbaoifheaa.Hand Go.Proofs.YtoologbaoifheaaW.PrintWords
set_option linter.unusedVariables false
set_option linter.unusedSimpArgs false

/-- Bytes as a number, the highest first. -/
def num (l : List Int) : Int := l.foldl (fun a b => a * 256 + b) 0
theorem num_snoc (l : List Int) (b : Int) : num (l ++ [b]) = num l * 256 + b := by simp [num]
theorem num_rep (l : List Int) : ∀ m : Nat, num (l ++ List.replicate m 255) = (num l + 1) * 256 ^ m - 1
  | 0 => by simp
  | m + 1 => by
    rw [List.replicate_succ', ← List.append_assoc, num_snoc, num_rep l m, Int.pow_succ, ← Int.mul_assoc]
    omega
theorem num_zero (l : List Int) : ∀ m : Nat, num (l ++ List.replicate m 0) = num l * 256 ^ m
  | 0 => by simp
  | m + 1 => by
    rw [List.replicate_succ', ← List.append_assoc, num_snoc, num_zero l m, Int.pow_succ, ← Int.mul_assoc]
    omega
/-- What an encoder has written, and what it holds: as one number. -/
def bodyE (s : Enc) : List Int := s.out ++ s.held :: List.replicate (s.count - 1).toNat 255
def T (s : Enc) : Int := num (bodyE s) * 4294967296 + s.low
/-- A carry finds its place. -/
structure Fits (s : Enc) : Prop where
  good : Hand.Good s
  held : s.held = 255 → s.low + s.width ≤ 4294967296
  bytes : ∀ x ∈ s.out, 0 ≤ x ∧ x < 256
theorem body_cons (s : Enc) : bodyE s = (s.out ++ [s.held]) ++ List.replicate (s.count - 1).toNat 255 := by simp [bodyE]
theorem carry_num (s : Enc) (h0 : 0 ≤ s.low) (h1 : s.low < 8589934592) (a0 : 0 ≤ s.held) (a1 : s.held < 256) (hh : s.held = 255 → s.low < 4294967296) : num (carryOut s) = num (bodyE s) + s.low / 4294967296 := by
  have e : carryOut s = (s.out ++ [(s.held + s.low / 4294967296) % 256]) ++ List.replicate (s.count - 1).toNat ((255 + s.low / 4294967296) % 256) := by simp [carryOut]
  rw [e, body_cons, num_rep, num_snoc]
  by_cases hc : s.low < 4294967296
  · have c0 : s.low / 4294967296 = 0 := by omega
    rw [c0, Int.add_zero, Int.add_zero, show (255 : Int) % 256 = 255 from rfl, num_rep, num_snoc, Int.emod_eq_of_lt a0 a1]
    omega
  · have c1 : s.low / 4294967296 = 1 := by omega
    have hne : s.held ≠ 255 := fun h => hc (hh h)
    rw [c1, show ((255 : Int) + 1) % 256 = 0 from rfl, num_zero, num_snoc, Int.emod_eq_of_lt (by omega) (by omega), ← Int.add_assoc]
    omega
theorem T_shift (s : Enc) (h0 : 0 ≤ s.low) (h1 : s.low < 8589934592) (a0 : 0 ≤ s.held) (a1 : s.held < 256) (hc : 1 ≤ s.count) (hh : s.held = 255 → s.low < 4294967296) : T (shiftE s) = T s * 256 := by
  unfold shiftE
  split
  · have hn := carry_num s h0 h1 a0 a1 hh
    have hb : bodyE (onE (carryE s)) = carryOut s ++ [s.low / 16777216 % 256] := by
      unfold bodyE onE carryE
      simp
    unfold T
    rw [hb, num_snoc, hn]
    show ((num (bodyE s) + s.low / 4294967296) * 256 + s.low / 16777216 % 256) * 4294967296 + s.low * 256 % 4294967296 = _
    omega
  · rename_i hf
    unfold flushes at hf
    have hb : bodyE (onE s) = bodyE s ++ [255] := by
      unfold bodyE onE
      show s.out ++ s.held :: List.replicate (s.count + 1 - 1).toNat 255 = _
      rw [show (s.count + 1 - 1).toNat = (s.count - 1).toNat + 1 by omega, List.replicate_succ']
      simp
    unfold T
    rw [hb, num_snoc]
    show (num (bodyE s) * 256 + 255) * 4294967296 + s.low * 256 % 4294967296 = _
    omega
theorem out_shift (s : Enc) (h : ∀ x ∈ s.out, 0 ≤ x ∧ x < 256) : ∀ x ∈ (shiftE s).out, 0 ≤ x ∧ x < 256 := by
  unfold shiftE onE
  split
  · intro x hx
    have hx : x ∈ carryOut s := hx
    unfold carryOut at hx
    rw [List.mem_append, List.mem_cons, List.mem_replicate] at hx
    rcases hx with hx | rfl | ⟨_, rfl⟩
    · exact h x hx
    · omega
    · omega
  · exact h
theorem wide_fits (s : Enc) (h : Fits s) (hw : s.width / 16777216 = 0) : Fits (wideE s) ∧ T (wideE s) = T s * 256 := by
  obtain ⟨⟨a, b, c, d, e, f, g⟩, hh, ho⟩ := h
  have hT : T (wideE s) = T { s with width := s.width * 256 } * 256 := T_shift { s with width := s.width * 256 } a (show s.low < 8589934592 by omega) e f g (fun q => by have := hh q; show s.low < _; omega)
  refine ⟨⟨wideE_good s ⟨a, b, c, d, e, f, g⟩ hw, ?_, out_shift _ ho⟩, hT⟩
  have hl : (wideE s).low = s.low * 256 % 4294967296 := shiftE_low _
  have hwd : (wideE s).width = s.width * 256 := shiftE_width _
  rw [hl, hwd]
  unfold wideE shiftE onE
  split
  · rename_i hf
    intro hq
    have hq : s.low / 16777216 % 256 = 255 := hq
    have hf : s.low < 4278190080 ∨ 4294967296 ≤ s.low := hf
    omega
  · rename_i hf
    intro hq
    have hq : s.held = 255 := hq
    have hf : ¬ (s.low < 4278190080 ∨ 4294967296 ≤ s.low) := hf
    have := hh hq
    omega
theorem part_fits (f n t : Int) (s : Enc) (h : Fits s) (hw : 16777216 ≤ s.width) (hm : mayP f n t) : Fits (partE f n t s) ∧ T (partE f n t s) = T s + s.width / t * f ∧ T (partE f n t s) + (partE f n t s).width ≤ T s + s.width := by
  obtain ⟨m1, m2, m3, m4, m5, m6⟩ := hm
  have r1 : s.width / t * t ≤ s.width := Int.ediv_mul_le _ (by omega)
  have r0 : 0 ≤ s.width / t := Int.ediv_nonneg (by omega) (by omega)
  have r2 : s.width / t * f + s.width / t * n ≤ s.width / t * t := by
    rw [← Int.mul_add]
    exact Int.mul_le_mul_of_nonneg_left (by omega) r0
  have hT : T (partE f n t s) = T s + s.width / t * f := by
    show num (bodyE s) * 4294967296 + (s.low + s.width / t * f) = num (bodyE s) * 4294967296 + s.low + _
    omega
  refine ⟨⟨partE_good f n t s h.good hw ⟨m1, m2, m3, m4, m5, m6⟩, fun q => ?_, h.bytes⟩, hT, ?_⟩
  · have := h.held q
    show s.low + s.width / t * f + s.width / t * n ≤ _
    omega
  · rw [hT]
    show T s + s.width / t * f + s.width / t * n ≤ _
    omega
/-- F lies within s. -/
def Nest (s F : Enc) : Prop := ∃ j : Nat, sizeE F = sizeE s + j ∧ T s * 256 ^ j ≤ T F ∧ T F + F.width ≤ (T s + s.width) * 256 ^ j
theorem Nest.refl (s : Enc) : Nest s s := ⟨0, rfl, by simp, by simp⟩
theorem Nest.trans {s r F : Enc} (h : Nest s r) (k : Nest r F) : Nest s F := by
  obtain ⟨i, a, b, c⟩ := h
  obtain ⟨j, d, e, f⟩ := k
  have hp : (0 : Int) ≤ 256 ^ j := Int.le_of_lt (Int.pow_pos (by decide))
  refine ⟨i + j, by omega, ?_, ?_⟩
  · have := Int.mul_le_mul_of_nonneg_right b hp
    rw [Int.pow_add, ← Int.mul_assoc]
    omega
  · have := Int.mul_le_mul_of_nonneg_right c hp
    rw [Int.pow_add, ← Int.mul_assoc]
    omega
theorem nest_part (f n t : Int) (s : Enc) (h : Fits s) (hw : 16777216 ≤ s.width) (hm : mayP f n t) : Nest s (partE f n t s) := by
  obtain ⟨_, hT, hle⟩ := part_fits f n t s h hw hm
  have : 0 ≤ s.width / t * f := Int.mul_nonneg (Int.ediv_nonneg (by omega) (by have := hm.1; omega)) hm.2.2.1
  exact ⟨0, rfl, by rw [hT]; simp; omega, by simpa using hle⟩
theorem nest_wide (s : Enc) (h : Fits s) (hw : s.width / 16777216 = 0) : Nest s (wideE s) := by
  have hT := (wide_fits s h hw).2
  have hwd : (wideE s).width = s.width * 256 := shiftE_width _
  refine ⟨1, shiftE_size { s with width := s.width * 256 } h.good.count, by rw [hT]; simp, ?_⟩
  rw [hT, hwd, Int.add_mul]
  simp
theorem norm_fits : ∀ (k : Nat) (s : Enc), Fits s → 16777216 ≤ s.width * 256 ^ k → Fits (normE k s) ∧ 16777216 ≤ (normE k s).width ∧ Nest s (normE k s)
  | 0, s, h, hk => ⟨h, by show 16777216 ≤ s.width; simpa using hk, Nest.refl s⟩
  | k + 1, s, h, hk => by
    by_cases hw : s.width / 16777216 = 0
    · obtain ⟨a, b⟩ := wide_fits s h hw
      have hwd : (wideE s).width = s.width * 256 := shiftE_width _
      obtain ⟨c, d, e⟩ := norm_fits k (wideE s) a (by rw [hwd, Int.mul_assoc, Int.mul_comm 256, ← Int.pow_succ]; exact hk)
      rw [normE, if_pos hw]
      exact ⟨c, d, (nest_wide s h hw).trans e⟩
    · rw [normE, if_neg hw]
      exact ⟨h, by have := h.good.wid0; omega, Nest.refl s⟩
theorem put_fits (f n t : Int) (s : Enc) (h : Fits s) (hw : 16777216 ≤ s.width) (hm : mayP f n t) : Fits (putE f n t s) ∧ 16777216 ≤ (putE f n t s).width ∧ Nest (partE f n t s) (putE f n t s) := by
  have hp := part_fits f n t s h hw hm
  have := hp.1.good.wid0
  exact norm_fits 3 _ hp.1 (by omega)
theorem new_fits : Fits newE := ⟨newE_good, fun h => absurd h (by decide), fun x hx => by cases hx⟩
end Go.Proofs.Ytoologbaoifheaa.Math
