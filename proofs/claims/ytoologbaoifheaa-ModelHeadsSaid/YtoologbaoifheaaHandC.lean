/- Contracts of layer 18, proved by hand: an encoder's Put. -/
import Derived.Test.YtoologbaoifheaaHandB
import Derived.Test.YtoologbaoifheaaPickA
namespace Go.Proofs.Ytoologbaoifheaa.Hand
open Go.RowKit Go.Proofs.Ytoologbaoifheaa.Q Go.Proofs.YtoologbaoifheaaW.PrintWords Go.Proofs.YtoologbaoifheaaW.PrintLast Go.Proofs.YtoologbaoifheaaW.PrintMore
set_option linter.unusedVariables false
set_option linter.unusedSimpArgs false

/-- A part of a range that may be. -/
def mayP (f s t : Int) : Prop := 1 ≤ t ∧ t ≤ 65536 ∧ 0 ≤ f ∧ f < t ∧ 1 ≤ s ∧ s ≤ t - f
instance (f s t : Int) : Decidable (mayP f s t) := by unfold mayP; infer_instance
theorem may_yes (f s t : Int) (h : mayP f s t) (w : World) : Calls Try.prog 45 #[.int .i64 f, .int .i64 s, .int .i64 t] w fun e w' => e = .returned (.bool true) ∧ Drawn0 w w' := by
  refine ranges_may.calls f s t true w ?_
  obtain ⟨h1, h2, h3, h4, h5, h6⟩ := h
  unfold ranges_may.f
  rw [if_pos h1, if_pos h2, if_pos h3, if_pos h4, if_pos h5, wrap_id _ (by omega) (by omega), decide_eq_true h6]
theorem may_no (f s t : Int) (h : ¬ mayP f s t) (w : World) : Calls Try.prog 45 #[.int .i64 f, .int .i64 s, .int .i64 t] w fun e w' => e = .returned (.bool false) ∧ Drawn0 w w' := by
  refine ranges_may.calls f s t false w ?_
  unfold ranges_may.f
  split
  · split
    · split
      · split
        · split
          · rename_i h1 h2 h3 h4 h5
            rw [wrap_id _ (by omega) (by omega)]
            congr 1
            exact decide_eq_false (fun h6 => h ⟨h1, h2, h3, h4, h5, h6⟩)
          · rfl
        · rfl
      · rfl
    · rfl
  · rfl
/-- How many bytes an encoder bears. -/
def sizeE (s : Enc) : Nat := s.out.length + s.count.toNat
/-- An encoder as its calls leave it. -/
structure Good (s : Enc) : Prop where
  low0 : 0 ≤ s.low
  low1 : s.low + s.width ≤ 8589934592
  wid0 : 1 ≤ s.width
  wid1 : s.width < 4294967296
  held0 : 0 ≤ s.held
  held1 : s.held < 256
  count : 1 ≤ s.count
def wideE (s : Enc) : Enc := shiftE { s with width := s.width * 256 }
def normE : Nat → Enc → Enc
  | 0, s => s
  | k + 1, s => if s.width / 16777216 = 0 then normE k (wideE s) else s
def partE (f n t : Int) (s : Enc) : Enc := { s with low := s.low + s.width / t * f, width := s.width / t * n }
def putE (f n t : Int) (s : Enc) : Enc := normE 3 (partE f n t s)
theorem normE_stop (k : Nat) (s : Enc) (h : ¬ s.width / 16777216 = 0) : normE k s = s := by
  cases k with
  | zero => rfl
  | succ k => rw [normE, if_neg h]
theorem shiftE_width (s : Enc) : (shiftE s).width = s.width := by
  unfold shiftE onE
  split <;> rfl
theorem shiftE_low (s : Enc) : (shiftE s).low = s.low * 256 % 4294967296 := by
  unfold shiftE onE
  split <;> rfl
theorem shiftE_count (s : Enc) (h : 1 ≤ s.count) : 1 ≤ (shiftE s).count := by
  unfold shiftE onE carryE
  split
  · show 1 ≤ 0 + 1; omega
  · show 1 ≤ s.count + 1; omega
theorem shiftE_held (s : Enc) (h0 : 0 ≤ s.held) (h1 : s.held < 256) : 0 ≤ (shiftE s).held ∧ (shiftE s).held < 256 := by
  unfold shiftE onE carryE
  split
  · show 0 ≤ s.low / 16777216 % 256 ∧ s.low / 16777216 % 256 < 256; omega
  · exact ⟨h0, h1⟩
theorem shiftE_size (s : Enc) (h : 1 ≤ s.count) : sizeE (shiftE s) = sizeE s + 1 := by
  unfold sizeE shiftE onE carryE
  split
  · show (carryOut s).length + (0 + 1 : Int).toNat = _
    unfold carryOut
    simp
    omega
  · show s.out.length + (s.count + 1).toNat = _
    omega
theorem wideE_good (s : Enc) (h : Good s) (hw : s.width / 16777216 = 0) : Good (wideE s) := by
  obtain ⟨a, b, c, d, e, f, g⟩ := h
  have hh := shiftE_held { s with width := s.width * 256 } e f
  have hl : (wideE s).low = s.low * 256 % 4294967296 := shiftE_low _
  have hwd : (wideE s).width = s.width * 256 := shiftE_width _
  exact ⟨by rw [hl]; omega, by rw [hl, hwd]; omega, by rw [hwd]; omega, by rw [hwd]; omega, hh.1, hh.2, shiftE_count _ g⟩
theorem partE_good (f n t : Int) (s : Enc) (h : Good s) (hw : 16777216 ≤ s.width) (hm : mayP f n t) : Good (partE f n t s) := by
  obtain ⟨a, b, c, d, e, f1, g⟩ := h
  obtain ⟨h1, h2, h3, h4, h5, h6⟩ := hm
  have r0 : 1 ≤ s.width / t := by
    have := Int.ediv_le_ediv (show (0 : Int) < t by omega) (show t ≤ s.width by omega)
    rwa [Int.ediv_self (by omega)] at this
  have r1 : s.width / t * t ≤ s.width := Int.ediv_mul_le _ (by omega)
  have r2 : s.width / t * f + s.width / t * n ≤ s.width / t * t := by
    rw [← Int.mul_add]
    exact Int.mul_le_mul_of_nonneg_left (by omega) (by omega)
  have r3 : 0 ≤ s.width / t * f := Int.mul_nonneg (by omega) h3
  have r4 : s.width / t * 1 ≤ s.width / t * n := Int.mul_le_mul_of_nonneg_left h5 (by omega)
  exact ⟨show 0 ≤ s.low + s.width / t * f by omega, show s.low + s.width / t * f + s.width / t * n ≤ 8589934592 by omega, show 1 ≤ s.width / t * n by omega, show s.width / t * n < 4294967296 by omega, e, f1, g⟩
set_option maxHeartbeats 4000000 in
set_option maxRecDepth 100000 in
theorem Put_no (f n t : Int) (a : Option Addr) (w : World) (h : a = none ∨ ¬ mayP f n t) :
    Calls Try.prog 22 #[.pointer a, .int .i64 f, .int .i64 n, .int .i64 t] w fun e w' => e = .returned (.int .i64 1) ∧ Drawn0 w w' := by
  have hup := Try.underlying42
  rcases a with _ | a
  · clear h
    go_enter Try.func22, Try.ntmps22
    go_wp2
    go_ret
    exact ⟨rfl, Drawn0.refl _⟩
  · have hm : ¬ mayP f n t := by
      rcases h with h | h
      · cases h
      · exact h
    have HM := Aside0.mk hm
    clear h hm
    go_enter Try.func22, Try.ntmps22
    go_wp2_with fail
    refine (may_no f n t HM.out _).mono ?_
    rintro e w1 ⟨rfl, hd⟩
    have HD := Aside0.mk hd
    clear hd
    go_wp2
    go_ret
    exact ⟨rfl, HD.out⟩
set_option maxHeartbeats 4000000 in
set_option maxRecDepth 100000 in
theorem Put_yes (f n t : Int) (s : Enc) (B g : Nat) (v : Value) (w : World) (h : EncAt w B g v s) (hg : Good s) (hw : 16777216 ≤ s.width) (hm : mayP f n t) (hl : sizeE s + 4 < 140737488355328) :
    Calls Try.prog 22 #[.pointer (some ⟨g, 0, none⟩), .int .i64 f, .int .i64 n, .int .i64 t] w fun e w' => e = .returned (.int .i64 0) ∧ ∃ v', EncAt w' B g v' (putE f n t s) ∧ Moved B g w v w' v' := by
  have hup := Try.underlying42
  have HP := Aside0.mk (partE_good f n t s hg hw hm)
  have HM := Aside0.mk hm
  have H := Aside0.mk h
  have HG := Aside0.mk hg
  have HL := Aside0.mk hl
  obtain ⟨h1, h2, h3, h4, h5, h6⟩ := hm
  clear h hg hl
  go_enter Try.func22, Try.ntmps22
  go_wp2_with fail
  refine (may_yes f n t HM.out _).mono ?_
  rintro e w1 ⟨rfl, ⟨m, rfl⟩⟩
  have H1 := Aside0.mk (H.out.below (pw_below_drewN (Below.refl _ _) m))
  have HM1 := Aside0.mk ((Moved.refl B g w v).drewN m)
  generalize w.drewN m = w1 at H1 HM1 ⊢
  have c0 : w1.cell? ⟨g, 0, none⟩ = some (.int .u64 s.low) := H1.out.cell 0
  have c1 : w1.cell? ⟨g, 1, none⟩ = some (.int .u32 s.width) := H1.out.cell 1
  have f0 : w1.frozen? ⟨g, 0, none⟩ = false := blk_frozen H1.out.1 0
  have f1 : w1.frozen? ⟨g, 1, none⟩ = false := blk_frozen H1.out.1 1
  have ww0 := HG.out.wid1
  have l0 := HG.out.low0
  have l1 := HG.out.low1
  have ww2 := HG.out.wid0
  have r0 : 1 ≤ s.width / t := by
    have := Int.ediv_le_ediv (show (0 : Int) < t by omega) (show t ≤ s.width by omega)
    rwa [Int.ediv_self (by omega)] at this
  have r1 : s.width / t * t ≤ s.width := Int.ediv_mul_le _ (by omega)
  have r2 : s.width / t * f + s.width / t * n ≤ s.width / t * t := by
    rw [← Int.mul_add]
    exact Int.mul_le_mul_of_nonneg_left (by omega) (by omega)
  have p0 : 0 ≤ s.width / t * f := Int.mul_nonneg (by omega) h3
  have p1 : s.width / t * f < 4294967296 := by
    have : 0 ≤ s.width / t * n := Int.mul_nonneg (by omega) (by omega)
    omega
  have q0 : 0 ≤ s.width / t * n := Int.mul_nonneg (by omega) (by omega)
  have q1 : s.width / t * n < 4294967296 := by omega
  have r3 : s.width / t < 4294967296 := by
    have := Int.ediv_le_self (a := s.width) t (by omega)
    omega
  clear r1 r2
  go_wp2
  have HE2 := Aside0.mk ((H1.out.set (s' := { s with low := s.low + s.width / t * f }) 0 _ rfl rfl).set (s' := partE f n t s) 1 (.int .u32 (s.width / t * n)) rfl rfl)
  have HM2 := Aside0.mk ((HM1.out.set H1.out.2.2 0 (.int .u64 (s.low + s.width / t * f))).set H1.out.2.2 1 (.int .u32 (s.width / t * n)))
  generalize (w1.setCell ⟨g, 0, none⟩ (.int .u64 (s.low + s.width / t * f))).setCell ⟨g, 1, none⟩ (.int .u32 (s.width / t * n)) = wz at HE2 HM2 ⊢
  have hsz : sizeE (partE f n t s) = sizeE s := rfl
  have hpe : putE f n t s = normE 3 (partE f n t s) := rfl
  generalize partE f n t s = s1 at HP HE2 hsz hpe
  have HPE := Aside0.mk hpe
  clear hpe
  have HSZ := Aside0.mk hsz
  clear c0 c1 f0 f1 ww0 l0 l1 ww2 r0 p0 p1 q0 q1 r3 hsz hw
  go_loopg [] 3 (fun k wr => ∃ (s' : Enc) (v' : Value), Aside0 (EncAt wr B g v' s') ∧ Aside0 (Moved B g w v wr v') ∧ Aside0 (Good s') ∧ Aside0 (normE k s' = normE 3 s1) ∧ Aside0 (16777216 ≤ s'.width * 256 ^ k) ∧ Aside0 (sizeE s' + k ≤ sizeE s + 3))
  case atStart => exact ⟨s1, v, HE2, HM2, HP, ⟨rfl⟩, ⟨by have := HP.out.wid0; omega⟩, ⟨by have := HSZ.out; omega⟩⟩
  case round =>
    obtain ⟨s', v', HE', HM', HG', HN', HW', HS'⟩ := hrel
    have c1 : wr.cell? ⟨g, 1, none⟩ = some (.int .u32 s'.width) := HE'.out.cell 1
    have f1 : wr.frozen? ⟨g, 1, none⟩ = false := blk_frozen HE'.out.1 1
    have w1 := HG'.out.wid1
    have w0 := HG'.out.wid0
    by_cases hlt : s'.width / 16777216 = 0
    · obtain ⟨k, rfl⟩ : ∃ k, gk = k + 1 := by
        rcases gk with _ | k
        · have := HW'.out
          simp at this
          omega
        · exact ⟨k, rfl⟩
      have HE3 := Aside0.mk (HE'.out.set (s' := { s' with width := s'.width * 256 }) 1 (.int .u32 (s'.width * 256)) rfl rfl)
      have HM3 := Aside0.mk (HM'.out.set HE'.out.2.2 1 (.int .u32 (s'.width * 256)))
      have HSH := Aside0.mk (shift_any { s' with width := s'.width * 256 } B g v' _ HE3.out HG'.out.low0 (by have := HG'.out.low1; have := HG'.out.wid0; show s'.low < _; omega) (by have := HG'.out.count; show 0 ≤ s'.count; omega) (by have := HS'.out; have := HL.out; unfold sizeE at *; show s'.count ≤ _; omega) (by have := HS'.out; have := HL.out; unfold sizeE at *; show s'.out.length + s'.count.toNat < _; omega))
      have HGW := Aside0.mk (wideE_good s' HG'.out hlt)
      have HNW : Aside0 (normE k (wideE s') = normE 3 s1) := ⟨by rw [← HN'.out, normE, if_pos hlt]⟩
      have HWW : Aside0 (16777216 ≤ (wideE s').width * 256 ^ k) := ⟨by
        have := HW'.out
        rw [show (wideE s').width = s'.width * 256 from shiftE_width _, Int.mul_assoc, Int.mul_comm 256, ← Int.pow_succ]
        exact this⟩
      have HSW : Aside0 (sizeE (wideE s') + k ≤ sizeE s + 3) := ⟨by
        have h1 := HS'.out
        have h2 : sizeE (wideE s') = sizeE s' + 1 := shiftE_size { s' with width := s'.width * 256 } HG'.out.count
        omega⟩
      go_wp2_with fail
      refine HSH.out.mono ?_
      rintro e w4 ⟨rfl, v4, hE4, hM4⟩
      have HE4 := Aside0.mk hE4
      have HM4 := Aside0.mk (HM3.out.trans hM4)
      clear hE4 hM4
      go_wp2
      go_roundg k
      case measure => omega
      case rel => exact ⟨wideE s', v4, HE4, HM4, HGW, HNW, HWW, HSW⟩
    · have HN2 := Aside0.mk (normE_stop gk s' hlt)
      go_wp2
      go_ret
      refine ⟨rfl, v', ?_, HM'.out⟩
      rw [HPE.out, ← HN'.out, HN2.out]
      exact HE'.out
end Go.Proofs.Ytoologbaoifheaa.Hand
