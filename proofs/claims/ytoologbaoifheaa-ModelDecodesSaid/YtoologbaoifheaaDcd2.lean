/- Texts of this claim's proof, laid behind each other: Contracts of layer 18, proved by hand: an encoder's Put; Contracts of layer 18, proved by hand: an encoder's Bits, New; Contracts of layer 18, proved by hand: an encoder's Finish; Contracts of layer 18, proved by hand: a decoder: Of, Peek, Used; Contracts of layer 18, proved by hand: a decoder of a text; Contracts of layer 18, proved by hand: a decoder's Take -/
import Derived.Test.YtoologbaoifheaaDcd1
/- Contracts of layer 18, proved by hand: an encoder's Put. -/
namespace Go.Proofs.Ytoologbaoifheaa.Hand
open Go.RowKit Go.Proofs.Ytoologbaoifheaa.Q Go.Proofs.YtoologbaoifheaaW.PrintWords Go.Proofs.YtoologbaoifheaaW.PrintLast Go.Proofs.YtoologbaoifheaaW.PrintMore
set_option linter.unusedVariables false
set_option linter.unusedSimpArgs false

/-- A part of a range that may be. -/
def mayP (f s t : Int) : Prop := 1 ≤ t ∧ t ≤ 65536 ∧ 0 ≤ f ∧ f < t ∧ 1 ≤ s ∧ s ≤ t - f
instance (f s t : Int) : Decidable (mayP f s t) := by unfold mayP; infer_instance
theorem may_yes (f s t : Int) (h : mayP f s t) (w : World) : Calls Try.prog 45 #[.int .i64 f, .int .i64 s, .int .i64 t] w fun e w' => e = .returned (.bool true) ∧ Drawn0 w w' := by
  refine ranges_may.calls f s t true w ?_
  obtain ⟨h1, h2, h3, h4, h5, h6⟩ := h
  unfold ranges_may.f
  rw [if_pos h1, if_pos h2, if_pos h3, if_pos h4, if_pos h5, wrap_id _ (by omega) (by omega), decide_eq_true h6]
theorem may_no (f s t : Int) (h : ¬ mayP f s t) (w : World) : Calls Try.prog 45 #[.int .i64 f, .int .i64 s, .int .i64 t] w fun e w' => e = .returned (.bool false) ∧ Drawn0 w w' := by
  refine ranges_may.calls f s t false w ?_
  unfold ranges_may.f
  split
  · split
    · split
      · split
        · split
          · rename_i h1 h2 h3 h4 h5
            rw [wrap_id _ (by omega) (by omega)]
            congr 1
            exact decide_eq_false (fun h6 => h ⟨h1, h2, h3, h4, h5, h6⟩)
          · rfl
        · rfl
      · rfl
    · rfl
  · rfl
/-- How many bytes an encoder bears. -/
def sizeE (s : Enc) : Nat := s.out.length + s.count.toNat
/-- An encoder as its calls leave it. -/
structure Good (s : Enc) : Prop where
  low0 : 0 ≤ s.low
  low1 : s.low + s.width ≤ 8589934592
  wid0 : 1 ≤ s.width
  wid1 : s.width < 4294967296
  held0 : 0 ≤ s.held
  held1 : s.held < 256
  count : 1 ≤ s.count
def wideE (s : Enc) : Enc := shiftE { s with width := s.width * 256 }
def normE : Nat → Enc → Enc
  | 0, s => s
  | k + 1, s => if s.width / 16777216 = 0 then normE k (wideE s) else s
def partE (f n t : Int) (s : Enc) : Enc := { s with low := s.low + s.width / t * f, width := s.width / t * n }
def putE (f n t : Int) (s : Enc) : Enc := normE 3 (partE f n t s)
theorem normE_stop (k : Nat) (s : Enc) (h : ¬ s.width / 16777216 = 0) : normE k s = s := by
  cases k with
  | zero => rfl
  | succ k => rw [normE, if_neg h]
theorem shiftE_width (s : Enc) : (shiftE s).width = s.width := by
  unfold shiftE onE
  split <;> rfl
theorem shiftE_low (s : Enc) : (shiftE s).low = s.low * 256 % 4294967296 := by
  unfold shiftE onE
  split <;> rfl
theorem shiftE_count (s : Enc) (h : 1 ≤ s.count) : 1 ≤ (shiftE s).count := by
  unfold shiftE onE carryE
  split
  · show 1 ≤ 0 + 1; omega
  · show 1 ≤ s.count + 1; omega
theorem shiftE_held (s : Enc) (h0 : 0 ≤ s.held) (h1 : s.held < 256) : 0 ≤ (shiftE s).held ∧ (shiftE s).held < 256 := by
  unfold shiftE onE carryE
  split
  · show 0 ≤ s.low / 16777216 % 256 ∧ s.low / 16777216 % 256 < 256; omega
  · exact ⟨h0, h1⟩
theorem shiftE_size (s : Enc) (h : 1 ≤ s.count) : sizeE (shiftE s) = sizeE s + 1 := by
  unfold sizeE shiftE onE carryE
  split
  · show (carryOut s).length + (0 + 1 : Int).toNat = _
    unfold carryOut
    simp
    omega
  · show s.out.length + (s.count + 1).toNat = _
    omega
theorem wideE_good (s : Enc) (h : Good s) (hw : s.width / 16777216 = 0) : Good (wideE s) := by
  obtain ⟨a, b, c, d, e, f, g⟩ := h
  have hh := shiftE_held { s with width := s.width * 256 } e f
  have hl : (wideE s).low = s.low * 256 % 4294967296 := shiftE_low _
  have hwd : (wideE s).width = s.width * 256 := shiftE_width _
  exact ⟨by rw [hl]; omega, by rw [hl, hwd]; omega, by rw [hwd]; omega, by rw [hwd]; omega, hh.1, hh.2, shiftE_count _ g⟩
theorem partE_good (f n t : Int) (s : Enc) (h : Good s) (hw : 16777216 ≤ s.width) (hm : mayP f n t) : Good (partE f n t s) := by
  obtain ⟨a, b, c, d, e, f1, g⟩ := h
  obtain ⟨h1, h2, h3, h4, h5, h6⟩ := hm
  have r0 : 1 ≤ s.width / t := by
    have := Int.ediv_le_ediv (show (0 : Int) < t by omega) (show t ≤ s.width by omega)
    rwa [Int.ediv_self (by omega)] at this
  have r1 : s.width / t * t ≤ s.width := Int.ediv_mul_le _ (by omega)
  have r2 : s.width / t * f + s.width / t * n ≤ s.width / t * t := by
    rw [← Int.mul_add]
    exact Int.mul_le_mul_of_nonneg_left (by omega) (by omega)
  have r3 : 0 ≤ s.width / t * f := Int.mul_nonneg (by omega) h3
  have r4 : s.width / t * 1 ≤ s.width / t * n := Int.mul_le_mul_of_nonneg_left h5 (by omega)
  exact ⟨show 0 ≤ s.low + s.width / t * f by omega, show s.low + s.width / t * f + s.width / t * n ≤ 8589934592 by omega, show 1 ≤ s.width / t * n by omega, show s.width / t * n < 4294967296 by omega, e, f1, g⟩
set_option maxHeartbeats 4000000 in
set_option maxRecDepth 100000 in
theorem Put_no (f n t : Int) (a : Option Addr) (w : World) (h : a = none ∨ ¬ mayP f n t) :
    Calls Try.prog 22 #[.pointer a, .int .i64 f, .int .i64 n, .int .i64 t] w fun e w' => e = .returned (.int .i64 1) ∧ Drawn0 w w' := by
  have hup := Try.underlying42
  rcases a with _ | a
  · clear h
    go_enter Try.func22, Try.ntmps22
    go_wp2
    go_ret
    exact ⟨rfl, Drawn0.refl _⟩
  · have hm : ¬ mayP f n t := by
      rcases h with h | h
      · cases h
      · exact h
    have HM := Aside0.mk hm
    clear h hm
    go_enter Try.func22, Try.ntmps22
    go_wp2_with fail
    refine (may_no f n t HM.out _).mono ?_
    rintro e w1 ⟨rfl, hd⟩
    have HD := Aside0.mk hd
    clear hd
    go_wp2
    go_ret
    exact ⟨rfl, HD.out⟩
set_option maxHeartbeats 4000000 in
set_option maxRecDepth 100000 in
theorem Put_yes (f n t : Int) (s : Enc) (B g : Nat) (v : Value) (w : World) (h : EncAt w B g v s) (hg : Good s) (hw : 16777216 ≤ s.width) (hm : mayP f n t) (hl : sizeE s + 4 < 140737488355328) :
    Calls Try.prog 22 #[.pointer (some ⟨g, 0, none⟩), .int .i64 f, .int .i64 n, .int .i64 t] w fun e w' => e = .returned (.int .i64 0) ∧ ∃ v', EncAt w' B g v' (putE f n t s) ∧ Moved B g w v w' v' := by
  have hup := Try.underlying42
  have HP := Aside0.mk (partE_good f n t s hg hw hm)
  have HM := Aside0.mk hm
  have H := Aside0.mk h
  have HG := Aside0.mk hg
  have HL := Aside0.mk hl
  obtain ⟨h1, h2, h3, h4, h5, h6⟩ := hm
  clear h hg hl
  go_enter Try.func22, Try.ntmps22
  go_wp2_with fail
  refine (may_yes f n t HM.out _).mono ?_
  rintro e w1 ⟨rfl, ⟨m, rfl⟩⟩
  have H1 := Aside0.mk (H.out.below (pw_below_drewN (Below.refl _ _) m))
  have HM1 := Aside0.mk ((Moved.refl B g w v).drewN m)
  generalize w.drewN m = w1 at H1 HM1 ⊢
  have c0 : w1.cell? ⟨g, 0, none⟩ = some (.int .u64 s.low) := H1.out.cell 0
  have c1 : w1.cell? ⟨g, 1, none⟩ = some (.int .u32 s.width) := H1.out.cell 1
  have f0 : w1.frozen? ⟨g, 0, none⟩ = false := blk_frozen H1.out.1 0
  have f1 : w1.frozen? ⟨g, 1, none⟩ = false := blk_frozen H1.out.1 1
  have ww0 := HG.out.wid1
  have l0 := HG.out.low0
  have l1 := HG.out.low1
  have ww2 := HG.out.wid0
  have r0 : 1 ≤ s.width / t := by
    have := Int.ediv_le_ediv (show (0 : Int) < t by omega) (show t ≤ s.width by omega)
    rwa [Int.ediv_self (by omega)] at this
  have r1 : s.width / t * t ≤ s.width := Int.ediv_mul_le _ (by omega)
  have r2 : s.width / t * f + s.width / t * n ≤ s.width / t * t := by
    rw [← Int.mul_add]
    exact Int.mul_le_mul_of_nonneg_left (by omega) (by omega)
  have p0 : 0 ≤ s.width / t * f := Int.mul_nonneg (by omega) h3
  have p1 : s.width / t * f < 4294967296 := by
    have : 0 ≤ s.width / t * n := Int.mul_nonneg (by omega) (by omega)
    omega
  have q0 : 0 ≤ s.width / t * n := Int.mul_nonneg (by omega) (by omega)
  have q1 : s.width / t * n < 4294967296 := by omega
  have r3 : s.width / t < 4294967296 := by
    have := Int.ediv_le_self (a := s.width) t (by omega)
    omega
  clear r1 r2
  go_wp2
  have HE2 := Aside0.mk ((H1.out.set (s' := { s with low := s.low + s.width / t * f }) 0 _ rfl rfl).set (s' := partE f n t s) 1 (.int .u32 (s.width / t * n)) rfl rfl)
  have HM2 := Aside0.mk ((HM1.out.set H1.out.2.2 0 (.int .u64 (s.low + s.width / t * f))).set H1.out.2.2 1 (.int .u32 (s.width / t * n)))
  generalize (w1.setCell ⟨g, 0, none⟩ (.int .u64 (s.low + s.width / t * f))).setCell ⟨g, 1, none⟩ (.int .u32 (s.width / t * n)) = wz at HE2 HM2 ⊢
  have hsz : sizeE (partE f n t s) = sizeE s := rfl
  have hpe : putE f n t s = normE 3 (partE f n t s) := rfl
  generalize partE f n t s = s1 at HP HE2 hsz hpe
  have HPE := Aside0.mk hpe
  clear hpe
  have HSZ := Aside0.mk hsz
  clear c0 c1 f0 f1 ww0 l0 l1 ww2 r0 p0 p1 q0 q1 r3 hsz hw
  go_loopg [] 3 (fun k wr => ∃ (s' : Enc) (v' : Value), Aside0 (EncAt wr B g v' s') ∧ Aside0 (Moved B g w v wr v') ∧ Aside0 (Good s') ∧ Aside0 (normE k s' = normE 3 s1) ∧ Aside0 (16777216 ≤ s'.width * 256 ^ k) ∧ Aside0 (sizeE s' + k ≤ sizeE s + 3))
  case atStart => exact ⟨s1, v, HE2, HM2, HP, ⟨rfl⟩, ⟨by have := HP.out.wid0; omega⟩, ⟨by have := HSZ.out; omega⟩⟩
  case round =>
    obtain ⟨s', v', HE', HM', HG', HN', HW', HS'⟩ := hrel
    have c1 : wr.cell? ⟨g, 1, none⟩ = some (.int .u32 s'.width) := HE'.out.cell 1
    have f1 : wr.frozen? ⟨g, 1, none⟩ = false := blk_frozen HE'.out.1 1
    have w1 := HG'.out.wid1
    have w0 := HG'.out.wid0
    by_cases hlt : s'.width / 16777216 = 0
    · obtain ⟨k, rfl⟩ : ∃ k, gk = k + 1 := by
        rcases gk with _ | k
        · have := HW'.out
          simp at this
          omega
        · exact ⟨k, rfl⟩
      have HE3 := Aside0.mk (HE'.out.set (s' := { s' with width := s'.width * 256 }) 1 (.int .u32 (s'.width * 256)) rfl rfl)
      have HM3 := Aside0.mk (HM'.out.set HE'.out.2.2 1 (.int .u32 (s'.width * 256)))
      have HSH := Aside0.mk (shift_any { s' with width := s'.width * 256 } B g v' _ HE3.out HG'.out.low0 (by have := HG'.out.low1; have := HG'.out.wid0; show s'.low < _; omega) (by have := HG'.out.count; show 0 ≤ s'.count; omega) (by have := HS'.out; have := HL.out; unfold sizeE at *; show s'.count ≤ _; omega) (by have := HS'.out; have := HL.out; unfold sizeE at *; show s'.out.length + s'.count.toNat < _; omega))
      have HGW := Aside0.mk (wideE_good s' HG'.out hlt)
      have HNW : Aside0 (normE k (wideE s') = normE 3 s1) := ⟨by rw [← HN'.out, normE, if_pos hlt]⟩
      have HWW : Aside0 (16777216 ≤ (wideE s').width * 256 ^ k) := ⟨by
        have := HW'.out
        rw [show (wideE s').width = s'.width * 256 from shiftE_width _, Int.mul_assoc, Int.mul_comm 256, ← Int.pow_succ]
        exact this⟩
      have HSW : Aside0 (sizeE (wideE s') + k ≤ sizeE s + 3) := ⟨by
        have h1 := HS'.out
        have h2 : sizeE (wideE s') = sizeE s' + 1 := shiftE_size { s' with width := s'.width * 256 } HG'.out.count
        omega⟩
      go_wp2_with fail
      refine HSH.out.mono ?_
      rintro e w4 ⟨rfl, v4, hE4, hM4⟩
      have HE4 := Aside0.mk hE4
      have HM4 := Aside0.mk (HM3.out.trans hM4)
      clear hE4 hM4
      go_wp2
      go_roundg k
      case measure => omega
      case rel => exact ⟨wideE s', v4, HE4, HM4, HGW, HNW, HWW, HSW⟩
    · have HN2 := Aside0.mk (normE_stop gk s' hlt)
      go_wp2
      go_ret
      refine ⟨rfl, v', ?_, HM'.out⟩
      rw [HPE.out, ← HN'.out, HN2.out]
      exact HE'.out
end Go.Proofs.Ytoologbaoifheaa.Hand
/- Contracts of layer 18, proved by hand: an encoder's Bits, New. -/
namespace Go.Proofs.Ytoologbaoifheaa.Hand
open Go.RowKit Go.Proofs.Ytoologbaoifheaa.Q Go.Proofs.YtoologbaoifheaaW.PrintWords Go.Proofs.YtoologbaoifheaaW.PrintLast Go.Proofs.YtoologbaoifheaaW.PrintMore
set_option linter.unusedVariables false
set_option linter.unusedSimpArgs false

/-- A number of so many bits. -/
def bitsP (n k : Int) : Prop := 1 ≤ k ∧ k ≤ 16 ∧ 0 ≤ n ∧ n < 2 ^ k.toNat
instance (n k : Int) : Decidable (bitsP n k) := by unfold bitsP; infer_instance
theorem bits_may (n k : Int) (h : bitsP n k) : mayP n 1 (2 ^ k.toNat) := by
  obtain ⟨h1, h2, h3, h4⟩ := h
  have hp : (2 : Int) ^ k.toNat = ((2 ^ k.toNat : Nat) : Int) := by simp
  have : 2 ^ k.toNat ≤ 2 ^ 16 := Nat.pow_le_pow_right (by decide) (by omega)
  rw [hp] at h4 ⊢
  exact ⟨by omega, by omega, h3, h4, by omega, by omega⟩
def newE : Enc := ⟨0, 4294967295, 0, 1, []⟩
theorem newE_good : Good newE := ⟨by decide, by decide, by decide, by decide, by decide, by decide, by decide⟩
set_option maxHeartbeats 4000000 in
set_option maxRecDepth 100000 in
theorem New_any (w : World) : Calls Try.prog 18 #[] w fun e w' => e = .returned (.pointer (some ⟨w.heap.size, 0, none⟩)) ∧ w' = w.alloc (.cells (encCells newE (.slice none 0 0)) 82) := by
  go_enter Try.func18, Try.ntmps18
  go_wp2
  go_ret
  exact ⟨rfl, rfl⟩
theorem new_at (w : World) (B : Nat) (hB : B ≤ w.heap.size) : EncAt (w.alloc (.cells (encCells newE (.slice none 0 0)) 82)) B w.heap.size (.slice none 0 0) newE := ⟨blk_new w _, BytesAt.nil _ _, hB⟩
set_option maxHeartbeats 4000000 in
set_option maxRecDepth 100000 in
theorem Bits_no (n k : Int) (a : Option Addr) (w : World) (h : a = none ∨ ¬ bitsP n k) :
    Calls Try.prog 23 #[.pointer a, .int .i64 n, .int .i64 k] w fun e w' => e = .returned (.int .i64 1) ∧ Drawn0 w w' := by
  have hup := Try.underlying42
  rcases a with _ | a
  · clear h
    go_enter Try.func23, Try.ntmps23
    go_wp2
    go_ret
    exact ⟨rfl, Drawn0.refl _⟩
  · have hm : ¬ bitsP n k := by
      rcases h with h | h
      · cases h
      · exact h
    have HM := Aside0.mk hm
    clear h hm
    by_cases h1 : k < 1
    · go_enter Try.func23, Try.ntmps23
      go_wp2
      go_ret
      exact ⟨rfl, Drawn0.refl _⟩
    · by_cases h2 : 16 < k
      · go_enter Try.func23, Try.ntmps23
        go_wp2
        go_ret
        exact ⟨rfl, Drawn0.refl _⟩
      · by_cases h3 : n < 0
        · go_enter Try.func23, Try.ntmps23
          go_wp2
          go_ret
          exact ⟨rfl, Drawn0.refl _⟩
        · have b1 : 1 ≤ k := by omega
          have b2 : k ≤ 16 := by omega
          have b3 : 0 ≤ n := by omega
          have hq : (n / 2 ^ k.toNat != 0) = true := by
            have hpos : (0 : Int) < 2 ^ k.toNat := Int.pow_pos (by decide)
            have h4 : ¬ n < 2 ^ k.toNat := fun h => HM.out ⟨b1, b2, b3, h⟩
            have h5 := Int.ediv_le_ediv hpos (show (2 : Int) ^ k.toNat ≤ n by omega)
            rw [Int.ediv_self (by omega)] at h5
            simp only [bne_iff_ne, ne_eq]
            omega
          go_enter Try.func23, Try.ntmps23
          go_wp2
          go_ret
          exact ⟨rfl, Drawn0.refl _⟩
set_option maxHeartbeats 4000000 in
set_option maxRecDepth 100000 in
theorem Bits_yes (n k : Int) (s : Enc) (B g : Nat) (v : Value) (w : World) (h : EncAt w B g v s) (hg : Good s) (hw : 16777216 ≤ s.width) (hb : bitsP n k) (hl : sizeE s + 4 < 140737488355328) :
    Calls Try.prog 23 #[.pointer (some ⟨g, 0, none⟩), .int .i64 n, .int .i64 k] w fun e w' => e = .returned (.int .i64 0) ∧ ∃ v', EncAt w' B g v' (putE n 1 (2 ^ k.toNat) s) ∧ Moved B g w v w' v' := by
  have hup := Try.underlying42
  have hp := Put_yes n 1 (2 ^ k.toNat) s B g v w h hg hw (bits_may n k hb) hl
  obtain ⟨b1, b2, b3, b4⟩ := hb
  have hle : (2 : Int) ^ k.toNat ≤ 65536 := by
    have h1 : (2 : Int) ^ k.toNat = ((2 ^ k.toNat : Nat) : Int) := by simp
    have h2 : 2 ^ k.toNat ≤ 2 ^ 16 := Nat.pow_le_pow_right (by decide) (by omega)
    rw [h1]
    omega
  have hpos : (0 : Int) < 2 ^ k.toNat := Int.pow_pos (by decide)
  have hq : (n / 2 ^ k.toNat != 0) = false := by
    rw [Int.ediv_eq_zero_of_lt b3 b4]
    rfl
  have hwp : wrap64 (2 ^ k.toNat) = 2 ^ k.toNat := wrap_id _ (by omega) (by omega)
  obtain ⟨t, ht⟩ : ∃ t : Int, 2 ^ k.toNat = t := ⟨_, rfl⟩
  rw [ht] at hp hwp b4 hle hpos
  have hwp2 : wrap64 (2 ^ k.toNat) = t := by rw [ht]; exact hwp
  have HP := Aside0.mk hp
  have HT := Aside0.mk ht
  clear hp hwp ht b4
  go_enter Try.func23, Try.ntmps23
  go_wp2_with fail
  refine HP.out.mono ?_
  rintro e w1 ⟨rfl, v1, hE, hM⟩
  have HE := Aside0.mk hE
  have HM := Aside0.mk hM
  clear hE hM
  go_wp2
  go_ret
  rw [HT.out]
  exact ⟨rfl, v1, HE.out, HM.out⟩
end Go.Proofs.Ytoologbaoifheaa.Hand
/- Contracts of layer 18, proved by hand: an encoder's Finish. -/
namespace Go.Proofs.Ytoologbaoifheaa.Hand
open Go.RowKit Go.Proofs.Ytoologbaoifheaa.Q Go.Proofs.YtoologbaoifheaaW.PrintWords Go.Proofs.YtoologbaoifheaaW.PrintLast Go.Proofs.YtoologbaoifheaaW.PrintMore
set_option linter.unusedVariables false
set_option linter.unusedSimpArgs false

def shifts : Nat → Enc → Enc
  | 0, s => s
  | k + 1, s => shiftE (shifts k s)
theorem shifts_ok (s : Enc) (h : Good s) : ∀ k, 0 ≤ (shifts k s).low ∧ (shifts k s).low ≤ 8589934592 ∧ 1 ≤ (shifts k s).count ∧ sizeE (shifts k s) = sizeE s + k
  | 0 => ⟨h.low0, by have := h.low1; have := h.wid0; show s.low ≤ _; omega, h.count, rfl⟩
  | k + 1 => by
    obtain ⟨h1, h2, h3, h4⟩ := shifts_ok s h k
    have e := shiftE_low (shifts k s)
    refine ⟨?_, ?_, shiftE_count _ h3, ?_⟩
    · show 0 ≤ (shiftE (shifts k s)).low; rw [e]; omega
    · show (shiftE (shifts k s)).low ≤ _; rw [e]; omega
    · show sizeE (shiftE (shifts k s)) = _; rw [shiftE_size _ h3, h4]; omega
/-- What an encoder gives. -/
def finishS (s : Enc) : ByteArray := strOfNums (shifts 5 s).out
set_option maxHeartbeats 4000000 in
set_option maxRecDepth 100000 in
theorem Finish_nil (w : World) : Calls Try.prog 25 #[.pointer none] w fun e w' => e = .returned (.string ⟨#[]⟩) ∧ Drawn0 w w' := by
  have hup := Try.underlying42
  go_enter Try.func25, Try.ntmps25
  go_wp2
  go_ret
  exact ⟨rfl, Drawn0.refl _⟩
set_option maxHeartbeats 4000000 in
set_option maxRecDepth 100000 in
theorem Finish_any (s : Enc) (B g : Nat) (v : Value) (w : World) (h : EncAt w B g v s) (hg : Good s) (hl : sizeE s + 8 < 140737488355328) :
    Calls Try.prog 25 #[.pointer (some ⟨g, 0, none⟩)] w fun e w' => e = .returned (.string (finishS s)) ∧ ∃ v', EncAt w' B g v' newE ∧ Moved B g w v w' v' := by
  have hup := Try.underlying42
  have H := Aside0.mk h
  have HG := Aside0.mk hg
  have HL := Aside0.mk hl
  clear h hg hl
  go_enter Try.func25, Try.ntmps25
  go_wp2
  go_loopw [6] (fun i wr => ∃ (d : Nat) (v' : Value), d ≤ 5 ∧ i = .int .i64 d ∧ Aside0 (EncAt wr B g v' (shifts d s)) ∧ Aside0 (Moved B g w v wr v')) (fun i _ => 5 - (intOf i).toNat)
  case atStart => exact ⟨0, v, by omega, rfl, H, ⟨Moved.refl B g w v⟩⟩
  case round =>
    obtain ⟨d, v', hd, rfl, HE, HM⟩ := hrel
    by_cases hlt : d < 5
    · have i1 : (d : Int) < 5 := by omega
      have HO := Aside0.mk (shifts_ok s HG.out d)
      have HSH := Aside0.mk (shift_any (shifts d s) B g v' wr HE.out HO.out.1 (by have := HO.out.2.1; omega) (by have := HO.out.2.2.1; omega) (by have := HO.out.2.2.2; have := HL.out; unfold sizeE at *; omega) (by have := HO.out.2.2.2; have := HL.out; unfold sizeE at *; omega))
      go_wp2_with fail
      refine HSH.out.mono ?_
      rintro e w4 ⟨rfl, v4, hE4, hM4⟩
      have HE4 := Aside0.mk hE4
      have HM4 := Aside0.mk (HM.out.trans hM4)
      clear hE4 hM4
      go_wp2
      go_roundw
      case rel => exact ⟨d + 1, v4, by omega, by go_num, HE4, HM4⟩
      case measure => simp [intOf]; omega
    · obtain rfl : d = 5 := by omega
      have c4 : wr.cell? ⟨g, 4, none⟩ = some v' := HE.out.cell 4
      have hcv := HE.out.2.1.text
      go_wp2_with fail
      refine (New_any _).mono ?_
      rintro e w4 ⟨rfl, rfl⟩
      have HN := Aside0.mk (new_at wr B (Nat.le_trans HE.out.2.2 (Nat.le_of_lt HE.out.lt)))
      have HX := Aside0.mk (HE.out.below (below_alloc (Below.refl wr.heap.size wr) (.cells (encCells newE (.slice none 0 0)) 82)))
      have HMX := Aside0.mk (HM.out.new (below_alloc (Below.refl wr.heap.size wr) (.cells (encCells newE (.slice none 0 0)) 82)) (Nat.le_trans HE.out.2.2 (Nat.le_of_lt HE.out.lt)))
      clear c4 hcv
      obtain ⟨gn, hgn⟩ : ∃ gn, wr.heap.size = gn := ⟨_, rfl⟩
      have HGN := Aside0.mk hgn
      rw [hgn] at HN ⊢
      clear hgn
      generalize wr.alloc (.cells (encCells newE (.slice none 0 0)) 82) = wx at HN HX HMX ⊢
      have n0 : wx.cell? ⟨gn, 0, none⟩ = some (.int .u64 0) := HN.out.cell 0
      have n1 : wx.cell? ⟨gn, 1, none⟩ = some (.int .u32 4294967295) := HN.out.cell 1
      have n2 : wx.cell? ⟨gn, 2, none⟩ = some (.int .u8 0) := HN.out.cell 2
      have n3 : wx.cell? ⟨gn, 3, none⟩ = some (.int .i64 1) := HN.out.cell 3
      have n4 : wx.cell? ⟨gn, 4, none⟩ = some (.slice none 0 0) := HN.out.cell 4
      have g0 : wx.cell? ⟨g, 0, none⟩ = some (.int .u64 (shifts 5 s).low) := HX.out.cell 0
      have g1 : wx.cell? ⟨g, 1, none⟩ = some (.int .u32 (shifts 5 s).width) := HX.out.cell 1
      have g2 : wx.cell? ⟨g, 2, none⟩ = some (.int .u8 (shifts 5 s).held) := HX.out.cell 2
      have g3 : wx.cell? ⟨g, 3, none⟩ = some (.int .i64 (shifts 5 s).count) := HX.out.cell 3
      have g4 : wx.cell? ⟨g, 4, none⟩ = some v' := HX.out.cell 4
      have f0 : wx.frozen? ⟨g, 0, none⟩ = false := blk_frozen HX.out.1 0
      have f1 : wx.frozen? ⟨g, 1, none⟩ = false := blk_frozen HX.out.1 1
      have f2 : wx.frozen? ⟨g, 2, none⟩ = false := blk_frozen HX.out.1 2
      have f3 : wx.frozen? ⟨g, 3, none⟩ = false := blk_frozen HX.out.1 3
      have f4 : wx.frozen? ⟨g, 4, none⟩ = false := blk_frozen HX.out.1 4
      go_wp2
      go_ret
      refine ⟨rfl, .slice none 0 0, EncAt.put ((((HX.out.set (s' := { shifts 5 s with low := 0 }) 0 _ rfl rfl).set (s' := { shifts 5 s with low := 0, width := 4294967295 }) 1 _ rfl rfl).set (s' := { shifts 5 s with low := 0, width := 4294967295, held := 0 }) 2 _ rfl rfl).set (s' := { newE with out := (shifts 5 s).out }) 3 _ rfl rfl).1 (BytesAt.nil _ _) HX.out.2.2, ?_⟩
      have hm := ((((HMX.out.set HX.out.2.2 0 (.int .u64 0)).set HX.out.2.2 1 (.int .u32 4294967295)).set HX.out.2.2 2 (.int .u8 0)).set HX.out.2.2 3 (.int .i64 1)).set HX.out.2.2 4 (.slice none 0 0)
      exact ⟨hm.below, hm.kept, fun k hk => by cases hk⟩
end Go.Proofs.Ytoologbaoifheaa.Hand
/- Contracts of layer 18, proved by hand: a decoder: Of, Peek, Used. -/
namespace Go.Proofs.Ytoologbaoifheaa.Hand
open Go.RowKit Go.Proofs.Ytoologbaoifheaa.Q Go.Proofs.YtoologbaoifheaaW.PrintWords Go.Proofs.YtoologbaoifheaaW.PrintLast Go.Proofs.YtoologbaoifheaaW.PrintMore
set_option linter.unusedVariables false
set_option linter.unusedSimpArgs false

structure Dec where
  s : ByteArray
  pos : Int
  code : Int
  width : Int
  bad : Bool
def decCells (d : Dec) : Array Value := #[.string d.s, .int .i64 d.pos, .int .u32 d.code, .int .u32 d.width, .bool d.bad]
/-- A decoder that lies in block g. -/
def DecAt (w : World) (g : Nat) (d : Dec) : Prop := w.heap[g]? = some (.cells (decCells d) 89 (0, 0))
theorem DecAt.below {w w' : World} {g : Nat} {d : Dec} (h : DecAt w g d) (hb : Below w.heap.size w w') : DecAt w' g d := blk_below h hb
theorem DecAt.cell {w : World} {g : Nat} {d : Dec} (h : DecAt w g d) (j : Nat) : w.cell? ⟨g, j, none⟩ = (decCells d)[j]? := blk_cell h j
theorem DecAt.set {w : World} {g : Nat} {d d' : Dec} (h : DecAt w g d) (j : Nat) (u : Value) (hs : (decCells d).setIfInBounds j u = decCells d') : DecAt (w.setCell ⟨g, j, none⟩ u) g d' := blk_put h j u hs
/-- From w on to w' a decoder in block g has been turned, and nothing else. -/
structure Turned (B g : Nat) (w w' : World) : Prop where
  below : Below B w w'
  kept : Kept w w' (fun k => k = g)
theorem Turned.refl (B g : Nat) (w : World) : Turned B g w w := ⟨Below.refl _ _, Kept.refl _ _⟩
theorem Turned.trans {B g : Nat} {w w1 w2 : World} (h : Turned B g w w1) (k : Turned B g w1 w2) : Turned B g w w2 := ⟨h.below.trans k.below, h.kept.then_ k.kept (fun _ h => .inl h)⟩
theorem Turned.set {B g : Nat} {w w1 : World} (h : Turned B g w w1) (hB : B ≤ g) (j : Nat) (u : Value) : Turned B g w (w1.setCell ⟨g, j, none⟩ u) := ⟨h.below.setCell hB u, h.kept.setCell (p := ⟨g, j, none⟩) (.inl rfl) u⟩
theorem Turned.drewN {B g : Nat} {w w1 : World} (h : Turned B g w w1) (m : Nat) : Turned B g w (w1.drewN m) := ⟨pw_below_drewN h.below m, h.kept.drewN m⟩
theorem Turned.drawn {B g : Nat} {w w1 w2 : World} (h : Turned B g w w1) (k : Drawn0 w1 w2) : Turned B g w w2 := by
  obtain ⟨m, rfl⟩ := k
  exact h.drewN m
/-- What a place in the code is. -/
def peekD (d : Dec) (t : Int) : Int × Int := if t < 1 ∨ 65536 < t then (0, 1) else if d.bad = true then (0, 2) else (if d.code / (d.width / t) ≤ t - 1 then d.code / (d.width / t) else t - 1, 0)
/-- A decoder as its calls leave it. -/
structure GoodD (d : Dec) : Prop where
  code0 : 0 ≤ d.code
  code1 : d.code < 4294967296
  wid0 : d.bad = false → 16777216 ≤ d.width
  wid1 : d.width < 4294967296
  pos0 : 0 ≤ d.pos
  pos1 : d.pos ≤ d.s.size
set_option maxHeartbeats 4000000 in
set_option maxRecDepth 100000 in
theorem Peek_nil (t : Int) (w : World) : Calls Try.prog 36 #[.pointer none, .int .i64 t] w fun e w' => e = .returned (.tuple #[.int .i64 0, .int .i64 1]) ∧ Drawn0 w w' := by
  have hup := Try.underlying67
  go_enter Try.func36, Try.ntmps36
  go_wp2
  go_ret2
  exact ⟨rfl, Drawn0.refl _⟩
set_option maxHeartbeats 4000000 in
set_option maxRecDepth 100000 in
theorem Peek_any (d : Dec) (t : Int) (g : Nat) (w : World) (h : DecAt w g d) (hg : GoodD d) :
    Calls Try.prog 36 #[.pointer (some ⟨g, 0, none⟩), .int .i64 t] w fun e w' => e = .returned (.tuple #[.int .i64 (peekD d t).1, .int .i64 (peekD d t).2]) ∧ Drawn0 w w' := by
  have hup := Try.underlying67
  have c2 : w.cell? ⟨g, 2, none⟩ = some (.int .u32 d.code) := h.cell 2
  have c3 : w.cell? ⟨g, 3, none⟩ = some (.int .u32 d.width) := h.cell 3
  have c4 : w.cell? ⟨g, 4, none⟩ = some (.bool d.bad) := h.cell 4
  clear h
  by_cases ht : t < 1 ∨ 65536 < t
  · have hp : peekD d t = (0, 1) := by unfold peekD; rw [if_pos ht]
    have HP := Aside0.mk hp
    clear hp
    rcases ht with ht | ht
    · go_enter Try.func36, Try.ntmps36
      go_wp2
      go_ret2
      rw [HP.out]
      exact ⟨rfl, Drawn0.refl _⟩
    · have : ¬ t < 1 := by omega
      go_enter Try.func36, Try.ntmps36
      go_wp2
      go_ret2
      rw [HP.out]
      exact ⟨rfl, Drawn0.refl _⟩
  · have t1 : 1 ≤ t := by omega
    have t2 : t ≤ 65536 := by omega
    cases hb : d.bad with
    | true =>
      have hp : peekD d t = (0, 2) := by unfold peekD; rw [if_neg ht, if_pos hb]
      have HP := Aside0.mk hp
      rw [hb] at c4
      clear hp hb ht
      go_enter Try.func36, Try.ntmps36
      go_wp2
      go_ret2
      rw [HP.out]
      exact ⟨rfl, Drawn0.refl _⟩
    | false =>
      have hp : peekD d t = (if d.code / (d.width / t) ≤ t - 1 then d.code / (d.width / t) else t - 1, 0) := by unfold peekD; rw [if_neg ht, if_neg (by rw [hb]; decide)]
      rw [hb] at c4
      have hw := hg.wid0 hb
      have hw1 := hg.wid1
      have k0 := hg.code0
      have k1 := hg.code1
      have r0 : 1 ≤ d.width / t := by
        have := Int.ediv_le_ediv (show (0 : Int) < t by omega) (show t ≤ d.width by omega)
        rwa [Int.ediv_self (by omega)] at this
      have r1 : ¬ d.width / t = 0 := by omega
      have r3 : d.width / t < 4294967296 := by
        have := Int.ediv_le_self (a := d.width) t (by omega)
        omega
      have q0 : 0 ≤ d.code / (d.width / t) := Int.ediv_nonneg k0 (by omega)
      have q1 : d.code / (d.width / t) < 4294967296 := by
        have := Int.ediv_le_self (a := d.code) (d.width / t) k0
        omega
      clear hb ht hg
      by_cases hq : d.code / (d.width / t) ≤ t - 1
      · rw [if_pos hq] at hp
        have HP := Aside0.mk hp
        clear hp
        go_enter Try.func36, Try.ntmps36
        go_wp2
        go_quiet (fail)
        go_wp2
        all_goals
          first
          | (exfalso; omega)
          | (go_ret2
             rw [HP.out]
             exact ⟨rfl, by repeat (first | exact Drawn0.refl _ | apply Drawn0.step)⟩)
      · rw [if_neg hq] at hp
        have HP := Aside0.mk hp
        clear hp
        go_enter Try.func36, Try.ntmps36
        go_wp2
        go_quiet (fail)
        go_wp2
        all_goals
          first
          | (exfalso; omega)
          | (go_ret2
             rw [HP.out]
             exact ⟨rfl, by repeat (first | exact Drawn0.refl _ | apply Drawn0.step)⟩)
set_option maxHeartbeats 4000000 in
set_option maxRecDepth 100000 in
theorem Used_nil (w : World) : Calls Try.prog 38 #[.pointer none] w fun e w' => e = .returned (.int .i64 0) ∧ Drawn0 w w' := by
  have hup := Try.underlying67
  go_enter Try.func38, Try.ntmps38
  go_wp2
  go_ret
  exact ⟨rfl, Drawn0.refl _⟩
theorem Used_any (d : Dec) (g : Nat) (w : World) (h : DecAt w g d) : Calls Try.prog 38 #[.pointer (some ⟨g, 0, none⟩)] w fun e w' => e = .returned (.int .i64 d.pos) ∧ Drawn0 w w' := by
  have hup := Try.underlying67
  have c1 : w.cell? ⟨g, 1, none⟩ = some (.int .i64 d.pos) := h.cell 1
  clear h
  go_enter Try.func38, Try.ntmps38
  go_wp2
  go_ret
  exact ⟨rfl, Drawn0.refl _⟩
/-- Eight bits behind a number's. -/
theorem or_low : ∀ (x b : Int), 0 ≤ x → x < 16777216 → 0 ≤ b → b < 256 → Go.bits .or .u32 (x * 256) b = x * 256 + b := by
  intro x b h0 h1 h2 h3
  obtain ⟨n, rfl⟩ := Int.eq_ofNat_of_zero_le h0
  obtain ⟨m, rfl⟩ := Int.eq_ofNat_of_zero_le h2
  have e : Go.bits .or .u32 ((n : Int) * 256) m = IntKind.u32.wrap ((BitVec.ofInt 32 ((n : Int) * 256) ||| BitVec.ofInt 32 m).toNat : Int) := rfl
  have e1 : (BitVec.ofInt 32 ((n : Int) * 256)).toNat = 2 ^ 8 * n := by rw [BitVec.toNat_ofInt]; omega
  have e2 : (BitVec.ofInt 32 (m : Int)).toNat = m := by rw [BitVec.toNat_ofInt]; omega
  rw [e, BitVec.toNat_or, e1, e2, ← Nat.two_pow_add_eq_or_of_lt (by omega), u32_wrap]
  omega
/-- A decoder of a text. -/
def ofD (s : ByteArray) : Dec := if s.size < 5 ∨ ¬ bt s 0 = 0 then ⟨s, 0, 0, 4294967295, true⟩ else ⟨s, 5, ((bt s 1 * 256 + bt s 2) * 256 + bt s 3) * 256 + bt s 4, 4294967295, false⟩
end Go.Proofs.Ytoologbaoifheaa.Hand
/- Contracts of layer 18, proved by hand: a decoder of a text. -/
namespace Go.Proofs.Ytoologbaoifheaa.Hand
open Go.RowKit Go.Proofs.Ytoologbaoifheaa.Q Go.Proofs.YtoologbaoifheaaW.PrintWords Go.Proofs.YtoologbaoifheaaW.PrintLast Go.Proofs.YtoologbaoifheaaW.PrintMore
set_option linter.unusedVariables false
set_option linter.unusedSimpArgs false

theorem bt_lt (s : ByteArray) (i : Int) : 0 ≤ bt s i ∧ bt s i < 256 := by
  unfold bt
  split
  · have := (s[i.toNat]).toNat_lt
    omega
  · omega
theorem bt_at (s : ByteArray) (k : Nat) (h : k < s.size) : ((s[k]'h).toNat : Int) = bt s (k : Nat) := by
  unfold bt
  simp [h]
/-- The first bytes behind the first one, as a number. -/
def codeTo (s : ByteArray) : Nat → Int
  | 0 => 0
  | k + 1 => codeTo s k * 256 + bt s ((k + 1 : Nat) : Int)
theorem codeTo_lt (s : ByteArray) : ∀ k, 0 ≤ codeTo s k ∧ codeTo s k < 256 ^ k
  | 0 => by
    show (0 : Int) ≤ 0 ∧ (0 : Int) < 256 ^ 0
    decide
  | k + 1 => by
    have h := codeTo_lt s k
    have hb := bt_lt s ((k + 1 : Nat) : Int)
    rw [codeTo, Int.pow_succ]
    omega
theorem ofD_bad (s : ByteArray) (h : s.size < 5 ∨ ¬ bt s 0 = 0) : ofD s = ⟨s, 0, 0, 4294967295, true⟩ := if_pos h
theorem ofD_good (s : ByteArray) (h : ¬ (s.size < 5 ∨ ¬ bt s 0 = 0)) : ofD s = ⟨s, 5, codeTo s 4, 4294967295, false⟩ := by
  unfold ofD
  rw [if_neg h]
  simp [codeTo]
theorem ofD_ok (s : ByteArray) : GoodD (ofD s) := by
  by_cases h : s.size < 5 ∨ ¬ bt s 0 = 0
  · rw [ofD_bad s h]
    exact ⟨(by decide : (0 : Int) ≤ 0), (by decide : (0 : Int) < 4294967296), fun h => Bool.noConfusion h, (by decide : (4294967295 : Int) < 4294967296), (by decide : (0 : Int) ≤ 0), Int.natCast_nonneg _⟩
  · rw [ofD_good s h]
    have := codeTo_lt s 4
    exact ⟨this.1, this.2, fun _ => (by decide : (16777216 : Int) ≤ 4294967295), (by decide : (4294967295 : Int) < 4294967296), (by decide : (0 : Int) ≤ 5), show (5 : Int) ≤ s.size by omega⟩
set_option maxHeartbeats 4000000 in
set_option maxRecDepth 100000 in
theorem Of_any (s : ByteArray) (hs : s.size ≤ 9223372036854775807) (B : Nat) (w : World) (hB : B ≤ w.heap.size) :
    Calls Try.prog 35 #[.string s] w fun e w' => ∃ g, e = .returned (.pointer (some ⟨g, 0, none⟩)) ∧ w.heap.size ≤ g ∧ DecAt w' g (ofD s) ∧ Below w.heap.size w w' := by
  have hup := Try.underlying67
  by_cases hbad : s.size < 5 ∨ ¬ bt s 0 = 0
  · have HO := Aside0.mk (ofD_bad s hbad)
    have HN : Aside0 (DecAt (w.alloc (.cells (decCells ⟨s, 0, 0, 4294967295, true⟩) 89)) w.heap.size ⟨s, 0, 0, 4294967295, true⟩) := ⟨blk_new w _⟩
    have HBW := Aside0.mk ((Below.refl w.heap.size w).alloc (Nat.le_refl _) (.cells (decCells ⟨s, 0, 0, 4294967295, true⟩) 89))
    rcases Nat.lt_or_ge s.size 5 with h5 | h5
    · have h5' : (s.size : Int) < 5 := by omega
      clear hbad
      go_enter Try.func35, Try.ntmps35
      go_wp2
      go_ret
      rw [HO.out]
      exact ⟨_, rfl, Nat.le_refl _, HN.out, HBW.out⟩
    · have h5' : ¬ (s.size : Int) < 5 := by omega
      have h6 : (0 : Int) < (s.size : Int) := by omega
      have hb0 : ¬ bt s 0 = 0 := by
        rcases hbad with h | h
        · omega
        · exact h
      have hbt := bt_at s 0 (by omega)
      rw [show ((0 : Nat) : Int) = 0 from rfl] at hbt
      have hbb : (bt s 0 == 0) = false := by simp [hb0]
      have hbc : (bt s 0 != 0) = true := by simp [hb0]
      clear hbad
      go_enter Try.func35, Try.ntmps35
      go_wp2
      go_ret
      rw [HO.out]
      exact ⟨_, rfl, Nat.le_refl _, HN.out, HBW.out⟩
  · have HO := Aside0.mk (ofD_good s hbad)
    have hsz : 5 ≤ s.size := by omega
    have h5 : ¬ (s.size : Int) < 5 := by omega
    have h6 : (0 : Int) < (s.size : Int) := by omega
    have hl0 : 0 < s.size := by omega
    have hbt := bt_at s 0 hl0
    rw [show bt s ((0 : Nat) : Int) = 0 from Decidable.byContradiction (fun h => hbad (.inr h))] at hbt
    have HN : Aside0 (DecAt (w.alloc (.cells (decCells ⟨s, 1, 0, 4294967295, false⟩) 89)) w.heap.size ⟨s, 1, 0, 4294967295, false⟩) := ⟨blk_new w _⟩
    have HBW := Aside0.mk ((Below.refl w.heap.size w).alloc (Nat.le_refl _) (.cells (decCells ⟨s, 1, 0, 4294967295, false⟩) 89))
    clear hbad
    go_enter Try.func35, Try.ntmps35
    go_wp2
    clear hbt
    go_loopg [] 4 (fun k wr => ∃ (d : Nat), d + k = 4 ∧ Aside0 (DecAt wr w.heap.size ⟨s, ((d + 1 : Nat) : Int), codeTo s d, 4294967295, false⟩) ∧ Aside0 (Below w.heap.size w wr))
    case atStart => exact ⟨0, rfl, HN, HBW⟩
    case round =>
      obtain ⟨d, hd, HD, HB⟩ := hrel
      have c1 : wr.cell? ⟨w.heap.size, 1, none⟩ = some (.int .i64 ((d + 1 : Nat) : Int)) := HD.out.cell 1
      have c2 : wr.cell? ⟨w.heap.size, 2, none⟩ = some (.int .u32 (codeTo s d)) := HD.out.cell 2
      have f1 : wr.frozen? ⟨w.heap.size, 1, none⟩ = false := blk_frozen HD.out 1
      have f2 : wr.frozen? ⟨w.heap.size, 2, none⟩ = false := blk_frozen HD.out 2
      by_cases hlt : d < 4
      · obtain ⟨m, hm⟩ : ∃ m, d + 1 = m := ⟨_, rfl⟩
        rw [hm] at c1
        have HM := Aside0.mk hm
        have i1 : (m : Int) < 5 := by omega
        have i2 : (m : Int) < (s.size : Int) := by omega
        have i3 : m < s.size := by omega
        have hbt := bt_at s m i3
        have hbl := bt_lt s (m : Nat)
        have hcl := codeTo_lt s d
        have hpl : (256 : Int) ^ d ≤ 256 ^ 3 := by
          have h1 : 256 ^ d ≤ 256 ^ 3 := Nat.pow_le_pow_right (by decide) (by omega)
          have h2 : (256 : Int) ^ d = ((256 ^ d : Nat) : Int) := by simp
          omega
        have hor := or_low (codeTo s d) (bt s (m : Nat)) hcl.1 (by omega) hbl.1 hbl.2
        have e1 : codeTo s (d + 1) = codeTo s d * 256 + bt s (m : Nat) := by rw [codeTo, hm]
        have HE := Aside0.mk e1
        obtain ⟨x, hx⟩ : ∃ x, codeTo s d = x := ⟨_, rfl⟩
        obtain ⟨y, hy⟩ : ∃ y, bt s (m : Nat) = y := ⟨_, rfl⟩
        rw [hx] at hor c2 HE HD
        rw [hy] at hor hbt HE
        have y0 : 0 ≤ y := by rw [← hy]; exact hbl.1
        have y1 : y < 256 := by rw [← hy]; exact hbl.2
        have x0 : 0 ≤ x := by rw [← hx]; exact hcl.1
        have x1 : x < 16777216 := by rw [← hx]; omega
        have hw8 : IntKind.u32.wrap (x * 256) = x * 256 := by rw [u32_wrap]; omega
        have HDK := Aside0.mk hd
        clear hx hy hbl hcl hpl e1 hm hd
        go_wp2
        go_still_tail 16, (by kernel_rfl)
        have HD2 : Aside0 (DecAt wr.drew w.heap.size ⟨s, ((d + 1 : Nat) : Int), x, 4294967295, false⟩) := ⟨HD.out.below (below_drew (Below.refl _ _))⟩
        have HB2 : Aside0 (Below w.heap.size w wr.drew) := ⟨below_drew HB.out⟩
        have d1 : wr.drew.cell? ⟨w.heap.size, 1, none⟩ = some (.int .i64 (m : Int)) := c1
        have d2 : wr.drew.cell? ⟨w.heap.size, 2, none⟩ = some (.int .u32 x) := c2
        have g1 : wr.drew.frozen? ⟨w.heap.size, 1, none⟩ = false := f1
        have g2 : wr.drew.frozen? ⟨w.heap.size, 2, none⟩ = false := f2
        clear c1 c2 f1 f2 HD HB
        change wpList _ _ _ _ _ wr.drew
        generalize wr.drew = wz at HD2 HB2 d1 d2 g1 g2 ⊢
        go_wp2
        go_roundg (gk - 1)
        case measure => have := HDK.out; omega
        case rel =>
          refine ⟨d + 1, by have := HDK.out; omega, ⟨(HD2.out.set (d' := ⟨s, ((d + 1 : Nat) : Int), codeTo s (d + 1), 4294967295, false⟩) 2 _ ?_).set 1 _ ?_⟩, ⟨(HB2.out.setCell (Nat.le_refl _) _).setCell (Nat.le_refl _) _⟩⟩
          · rw [HE.out]; rfl
          · simp [decCells, ← HM.out]
      · obtain rfl : d = 4 := by omega
        go_wp2
        go_ret
        rw [HO.out]
        exact ⟨_, rfl, Nat.le_refl _, HD.out, HB.out⟩
end Go.Proofs.Ytoologbaoifheaa.Hand
/- Contracts of layer 18, proved by hand: a decoder's Take. -/
namespace Go.Proofs.Ytoologbaoifheaa.Hand
open Go.RowKit Go.Proofs.Ytoologbaoifheaa.Q Go.Proofs.YtoologbaoifheaaW.PrintWords Go.Proofs.YtoologbaoifheaaW.PrintLast Go.Proofs.YtoologbaoifheaaW.PrintMore
set_option linter.unusedVariables false
set_option linter.unusedSimpArgs false

def byteD (d : Dec) : Dec := { d with width := d.width * 256, code := d.code % 16777216 * 256 + bt d.s d.pos, pos := d.pos + 1 }
/-- On to a wide range: the error, and the decoder. -/
def normD : Nat → Dec → Int × Dec
  | 0, d => (0, d)
  | k + 1, d => if d.width / 16777216 = 0 then (if d.pos = d.s.size then (2, { d with bad := true }) else normD k (byteD d)) else (0, d)
def partD (f n t : Int) (d : Dec) : Dec := { d with code := d.code - d.width / t * f, width := d.width / t * n }
def takeD (f n t : Int) (d : Dec) : Int × Dec :=
  if mayP f n t then (if d.bad = true then (2, d) else if (peekD d t).1 < f ∨ n ≤ (peekD d t).1 - f then (2, d) else normD 3 (partD f n t d)) else (1, d)
theorem normD_stop (k : Nat) (d : Dec) (h : ¬ d.width / 16777216 = 0) : normD k d = (0, d) := by
  cases k with
  | zero => rfl
  | succ k => rw [normD, if_neg h]
/-- A decoder within its calls. -/
structure MidD (d : Dec) : Prop where
  code0 : 0 ≤ d.code
  code1 : d.code < 4294967296
  wid0 : 1 ≤ d.width
  wid1 : d.width < 4294967296
  pos0 : 0 ≤ d.pos
  pos1 : d.pos ≤ d.s.size
  fine : d.bad = false
theorem byteD_mid (d : Dec) (h : MidD d) (hw : d.width / 16777216 = 0) (hp : ¬ d.pos = d.s.size) : MidD (byteD d) := by
  obtain ⟨a, b, c, e, f, g, i⟩ := h
  have hb := bt_lt d.s d.pos
  exact ⟨show 0 ≤ d.code % 16777216 * 256 + bt d.s d.pos by omega, show d.code % 16777216 * 256 + bt d.s d.pos < 4294967296 by omega, show 1 ≤ d.width * 256 by omega, show d.width * 256 < 4294967296 by omega, show 0 ≤ d.pos + 1 by omega, show d.pos + 1 ≤ (d.s.size : Int) by omega, i⟩
theorem peek_le (d : Dec) (f n t : Int) (h : GoodD d) (hb : d.bad = false) (hm : mayP f n t) (h1 : ¬ ((peekD d t).1 < f ∨ n ≤ (peekD d t).1 - f)) : d.width / t * f ≤ d.code := by
  obtain ⟨m1, m2, m3, m4, m5, m6⟩ := hm
  have hw := h.wid0 hb
  have k0 := h.code0
  have r0 : 1 ≤ d.width / t := by
    have := Int.ediv_le_ediv (show (0 : Int) < t by omega) (show t ≤ d.width by omega)
    rwa [Int.ediv_self (by omega)] at this
  have hpk : (peekD d t).1 ≤ d.code / (d.width / t) := by
    unfold peekD
    rw [if_neg (by omega), if_neg (by rw [hb]; decide)]
    show (if d.code / (d.width / t) ≤ t - 1 then d.code / (d.width / t) else t - 1) ≤ _
    split <;> omega
  have hf : f ≤ d.code / (d.width / t) := by omega
  have h2 := Int.mul_le_mul_of_nonneg_left hf (show 0 ≤ d.width / t by omega)
  have h3 := Int.mul_ediv_self_le (x := d.code) (k := d.width / t) (by omega)
  omega
theorem partD_mid (d : Dec) (f n t : Int) (h : GoodD d) (hb : d.bad = false) (hm : mayP f n t) (h1 : ¬ ((peekD d t).1 < f ∨ n ≤ (peekD d t).1 - f)) : MidD (partD f n t d) := by
  have hle := peek_le d f n t h hb hm h1
  obtain ⟨m1, m2, m3, m4, m5, m6⟩ := hm
  have hw := h.wid0 hb
  have k0 := h.code0
  have k1 := h.code1
  have w1 := h.wid1
  have r0 : 1 ≤ d.width / t := by
    have := Int.ediv_le_ediv (show (0 : Int) < t by omega) (show t ≤ d.width by omega)
    rwa [Int.ediv_self (by omega)] at this
  have r1 : d.width / t * t ≤ d.width := Int.ediv_mul_le _ (by omega)
  have r2 : d.width / t * n ≤ d.width / t * t := Int.mul_le_mul_of_nonneg_left (by omega) (by omega)
  have r3 : 0 ≤ d.width / t * f := Int.mul_nonneg (by omega) m3
  have r4 : d.width / t * 1 ≤ d.width / t * n := Int.mul_le_mul_of_nonneg_left m5 (by omega)
  exact ⟨show 0 ≤ d.code - d.width / t * f by omega, show d.code - d.width / t * f < 4294967296 by omega, show 1 ≤ d.width / t * n by omega, show d.width / t * n < 4294967296 by omega, h.pos0, h.pos1, hb⟩
theorem normD_good : ∀ (k : Nat) (d : Dec), MidD d → 16777216 ≤ d.width * 256 ^ k → GoodD (normD k d).2
  | 0, d, h, hk => ⟨h.code0, h.code1, fun _ => by show 16777216 ≤ d.width; simpa using hk, h.wid1, h.pos0, h.pos1⟩
  | k + 1, d, h, hk => by
    by_cases hw : d.width / 16777216 = 0
    · by_cases hp : d.pos = d.s.size
      · rw [normD, if_pos hw, if_pos hp]
        exact ⟨h.code0, h.code1, fun e => Bool.noConfusion e, h.wid1, h.pos0, h.pos1⟩
      · rw [normD, if_pos hw, if_neg hp]
        refine normD_good k _ (byteD_mid d h hw hp) ?_
        show 16777216 ≤ d.width * 256 * 256 ^ k
        rw [Int.mul_assoc, Int.mul_comm 256, ← Int.pow_succ]
        exact hk
    · rw [normD, if_neg hw]
      exact ⟨h.code0, h.code1, fun _ => by show 16777216 ≤ d.width; have := h.wid0; omega, h.wid1, h.pos0, h.pos1⟩
theorem takeD_good (d : Dec) (f n t : Int) (h : GoodD d) : GoodD (takeD f n t d).2 := by
  unfold takeD
  split
  · rename_i hm
    split
    · exact h
    · rename_i hb
      split
      · exact h
      · rename_i h1
        have hm2 := partD_mid d f n t h (by simpa using hb) hm h1
        exact normD_good 3 _ hm2 (by have := hm2.wid0; omega)
  · exact h
set_option maxHeartbeats 4000000 in
set_option maxRecDepth 100000 in
theorem Take_nil (f n t : Int) (w : World) : Calls Try.prog 50 #[.pointer none, .int .i64 f, .int .i64 n, .int .i64 t] w fun e w' => e = .returned (.int .i64 1) ∧ Drawn0 w w' := by
  have hup := Try.underlying67
  go_enter Try.func50, Try.ntmps50
  go_wp2
  go_ret
  exact ⟨rfl, Drawn0.refl _⟩
set_option maxHeartbeats 4000000 in
set_option maxRecDepth 100000 in
theorem Take_no (d : Dec) (f n t : Int) (hm : ¬ mayP f n t) (B g : Nat) (hB : B ≤ g) (w : World) (h : DecAt w g d) :
    Calls Try.prog 50 #[.pointer (some ⟨g, 0, none⟩), .int .i64 f, .int .i64 n, .int .i64 t] w fun e w' => e = .returned (.int .i64 1) ∧ DecAt w' g d ∧ Turned B g w w' := by
  have hup := Try.underlying67
  have HM := Aside0.mk hm
  have HD := Aside0.mk h
  clear hm h
  go_enter Try.func50, Try.ntmps50
  go_wp2_with fail
  refine (may_no f n t HM.out _).mono ?_
  rintro e w1 ⟨rfl, ⟨m, rfl⟩⟩
  go_wp2
  go_ret
  exact ⟨rfl, HD.out.below (pw_below_drewN (Below.refl _ _) m), (Turned.refl B g w).drewN m⟩
end Go.Proofs.Ytoologbaoifheaa.Hand
