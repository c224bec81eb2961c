/- The plain law of layer 18: a row of parts, put and taken. -/
import Derived.Test.YtoologbaoifheaaMathB
namespace Go.Proofs.Ytoologbaoifheaa.Math
open Go.RowKit Go.Proofs.Ytoologbaoifheaa Go.Proofs.Ytoologbaoifheaa.Hand Go.Proofs.YtoologbaoifheaaW.PrintWords
set_option linter.unusedVariables false
set_option linter.unusedSimpArgs false

abbrev Part := Int × Int × Int
def runE (ps : List Part) (s : Enc) : Enc := ps.foldl (fun s p => putE p.1 p.2.1 p.2.2 s) s
theorem runE_snoc (ps : List Part) (p : Part) (s : Enc) : runE (ps ++ [p]) s = putE p.1 p.2.1 p.2.2 (runE ps s) := by simp [runE]
theorem run_fits (ps : List Part) (hp : ∀ p ∈ ps, mayP p.1 p.2.1 p.2.2) (s : Enc) (h : Fits s) (hw : 16777216 ≤ s.width) : Fits (runE ps s) ∧ 16777216 ≤ (runE ps s).width ∧ Nest s (runE ps s) := by
  induction ps generalizing s with
  | nil => exact ⟨h, hw, Nest.refl s⟩
  | cons p ps ih =>
    have hm := hp p (List.mem_cons_self)
    obtain ⟨a, b, c⟩ := put_fits p.1 p.2.1 p.2.2 s h hw hm
    obtain ⟨d, e, f⟩ := ih (fun q hq => hp q (List.mem_cons_of_mem _ hq)) (putE p.1 p.2.1 p.2.2 s) a b
    exact ⟨d, e, (nest_part p.1 p.2.1 p.2.2 s h hw hm).trans (c.trans f)⟩
theorem normE_size (k : Nat) : ∀ s : Enc, 1 ≤ s.count → sizeE (normE k s) ≤ sizeE s + k := by
  induction k with
  | zero => intro s _; exact Nat.le_refl _
  | succ k ih =>
    intro s h
    rw [normE]
    split
    · have h1 : sizeE (wideE s) = sizeE s + 1 := shiftE_size { s with width := s.width * 256 } h
      have h2 := ih (wideE s) (shiftE_count { s with width := s.width * 256 } h)
      omega
    · omega
theorem putE_size (f n t : Int) (s : Enc) (h : 1 ≤ s.count) : sizeE (putE f n t s) ≤ sizeE s + 3 := normE_size 3 (partE f n t s) h
theorem bytesOf_append (a b : ByteArray) : bytesOf (a ++ b) = bytesOf a ++ bytesOf b := by
  unfold bytesOf
  rw [ByteArray.data_append]
  simp
theorem bytesOf_nums (l : List Int) (h : ∀ x ∈ l, 0 ≤ x ∧ x < 256) : bytesOf (strOfNums l) = l := by
  unfold bytesOf strOfNums
  simp only [List.map_map]
  conv => rhs; rw [← List.map_id l]
  apply List.map_congr_left
  intro x hx
  have := h x hx
  simp
  omega
theorem size_nums (l : List Int) : (strOfNums l).size = l.length := by
  have : (strOfNums l).size = ((l.map fun n => UInt8.ofNat n.toNat).toArray).size := rfl
  rw [this, List.size_toArray, List.length_map]
theorem finish_size (F : Enc) (h : Fits F) : (finishS F).size = sizeE F + 4 := by
  unfold finishS
  rw [size_nums, (finish_num F h).2.1]
theorem finish_ends (F : Enc) (h : Fits F) (behind : ByteArray) : Ends F (finishS F ++ behind) := by
  obtain ⟨a, b, c⟩ := finish_num F h
  refine ⟨by rw [ByteArray.size_append, finish_size F h]; omega, ?_⟩
  unfold pre
  rw [bytesOf_append]
  unfold finishS
  rw [bytesOf_nums _ c, List.take_append_of_le_length (by omega), List.take_of_length_le (by omega), a]
theorem pre_code (s : ByteArray) (h0 : bt s 0 = 0) : ∀ k, k + 1 ≤ s.size → pre s (k + 1) = codeTo s k
  | 0, h => by
    rw [pre_succ s 0 (by omega)]
    show num [] * 256 + bt s 0 = 0
    rw [h0]
    rfl
  | k + 1, h => by rw [pre_succ s (k + 1) (by omega), pre_code s h0 k (by omega), codeTo]
/-- A decoder of the text stands where a new encoder stands. -/
theorem start_sim (F : Enc) (hF : Fits F) (hn : Nest newE F) (s : ByteArray) (he : Ends F s) : Sim newE (ofD s) ∧ (ofD s).s = s := by
  obtain ⟨j, a, b, c⟩ := hn
  obtain ⟨e, f⟩ := he
  have hs1 : sizeE newE = 1 := rfl
  have hT0 : T newE = 0 := rfl
  have hw0 : newE.width = 4294967295 := rfl
  have hsz : 5 ≤ s.size := by omega
  have hp1 : pre s 1 = bt s 0 := by
    rw [pre_succ s 0 (by omega)]
    show num [] * 256 + bt s 0 = _
    show (0 : Int) * 256 + bt s 0 = _
    omega
  have hb := bt_lt s 0
  have h0 : bt s 0 = 0 := by
    obtain ⟨p, q⟩ := pre_back s 1 (sizeE F + 3) (by omega)
    rw [show 1 + (sizeE F + 3) = sizeE F + 4 by omega, f, hp1] at p
    rw [hT0, hw0] at c
    have hw := hF.good.wid0
    have hpos : (0 : Int) < 256 ^ j := Int.pow_pos (by decide)
    have e1 : (256 : Int) ^ (sizeE F + 3) = 256 ^ j * 4294967296 := by
      rw [show sizeE F + 3 = j + 4 by omega, Int.pow_add]
      rfl
    rw [e1] at p
    rcases Int.lt_or_le (bt s 0) 1 with h | h
    · omega
    · have h2 := Int.mul_le_mul_of_nonneg_right h (Int.le_of_lt (Int.mul_pos hpos (show (0 : Int) < 4294967296 by decide)))
      omega
  have hd : ofD s = ⟨s, 5, codeTo s 4, 4294967295, false⟩ := ofD_good s (by rw [h0]; omega)
  rw [hd]
  refine ⟨⟨rfl, rfl, rfl, ?_⟩, rfl⟩
  show codeTo s 4 = pre s 5 - T newE
  rw [hT0, pre_code s h0 4 (by omega)]
  omega
end Go.Proofs.Ytoologbaoifheaa.Math
