/- Contracts of layer 18, proved by hand: the reference's Put, Bits, New, Finish. -/
import Derived.Test.YtaojnjjajnbgoaaHandP
namespace Go.Proofs.Ytaojnjjajnbgoaa.Hand
open Go.RowKit Go.Proofs.Ytaojnjjajnbgoaa.Q Go.Proofs.YtaojnjjajnbgoaaW.PrintWords Go.Proofs.YtaojnjjajnbgoaaW.PrintLast Go.Proofs.YtaojnjjajnbgoaaW.PrintMore
set_option linter.unusedVariables false
set_option linter.unusedSimpArgs false

theorem rmay_yes (f s t : Int) (h : mayP f s t) (w : World) : Calls Try.prog 23 #[.int .i64 f, .int .i64 s, .int .i64 t] w fun e w' => e = .returned (.bool true) ∧ Drawn0 w w' := by
  refine lacquerref18_may.calls f s t true w ?_
  obtain ⟨h1, h2, h3, h4, h5, h6⟩ := h
  unfold lacquerref18_may.f
  rw [if_pos h1, if_pos h2, if_pos h3, if_pos h5, if_pos (show s ≤ t by omega), wrap_id _ (by omega) (by omega), decide_eq_true (show f ≤ t - s by omega)]
theorem rmay_no (f s t : Int) (h : ¬ mayP f s t) (w : World) : Calls Try.prog 23 #[.int .i64 f, .int .i64 s, .int .i64 t] w fun e w' => e = .returned (.bool false) ∧ Drawn0 w w' := by
  refine lacquerref18_may.calls f s t false w ?_
  unfold lacquerref18_may.f
  split
  · split
    · split
      · split
        · split
          · rename_i h1 h2 h3 h4 h5
            rw [wrap_id _ (by omega) (by omega)]
            congr 1
            exact decide_eq_false (fun h6 => h ⟨h1, h2, h3, by omega, h4, by omega⟩)
          · rfl
        · rfl
      · rfl
    · rfl
  · rfl
set_option maxHeartbeats 4000000 in
set_option maxRecDepth 100000 in
theorem RPut_no (f n t : Int) (a : Option Addr) (w : World) (h : ¬ mayP f n t) :
    Calls Try.prog 12 #[.pointer a, .int .i64 f, .int .i64 n, .int .i64 t] w fun e w' => e = .returned (.int .i64 1) ∧ Drawn0 w w' := by
  have hup := Try.underlying25
  have HM := Aside0.mk h
  clear h
  go_enter Try.func12, Try.ntmps12
  go_wp2_with fail
  refine (rmay_no f n t HM.out _).mono ?_
  rintro e w1 ⟨rfl, hd⟩
  have HD := Aside0.mk hd
  clear hd
  go_wp2
  go_ret
  exact ⟨rfl, HD.out⟩
set_option maxHeartbeats 4000000 in
set_option maxRecDepth 100000 in
theorem RPut_yes (f n t : Int) (s : Enc) (B g : Nat) (v : Value) (w : World) (h : RefAt w B g v s) (hg : Good s) (hw : 16777216 ≤ s.width) (hm : mayP f n t) (hl : sizeE s + 4 < 140737488355328) :
    Calls Try.prog 12 #[.pointer (some ⟨g, 0, none⟩), .int .i64 f, .int .i64 n, .int .i64 t] w fun e w' => e = .returned (.int .i64 0) ∧ ∃ v', RefAt w' B g v' (putE f n t s) ∧ Moved B g w v w' v' := by
  have hup := Try.underlying25
  have HP := Aside0.mk (partE_good f n t s hg hw hm)
  have HM := Aside0.mk hm
  have H := Aside0.mk h
  have HG := Aside0.mk hg
  have HL := Aside0.mk hl
  obtain ⟨h1, h2, h3, h4, h5, h6⟩ := hm
  clear h hg hl
  go_enter Try.func12, Try.ntmps12
  go_wp2_with fail
  refine (rmay_yes f n t HM.out _).mono ?_
  rintro e w1 ⟨rfl, ⟨m, rfl⟩⟩
  have H1 := Aside0.mk (H.out.below (pw_below_drewN (Below.refl _ _) m))
  have HM1 := Aside0.mk ((Moved.refl B g w v).drewN m)
  generalize w.drewN m = w1 at H1 HM1 ⊢
  have c0 : w1.cell? ⟨g, 0, none⟩ = some (.int .i64 s.low) := H1.out.cell 0
  have c1 : w1.cell? ⟨g, 1, none⟩ = some (.int .i64 s.width) := H1.out.cell 1
  have f0 : w1.frozen? ⟨g, 0, none⟩ = false := blk_frozen H1.out.1 0
  have f1 : w1.frozen? ⟨g, 1, none⟩ = false := blk_frozen H1.out.1 1
  have ww0 := HG.out.wid1
  have l0 := HG.out.low0
  have l1 := HG.out.low1
  have ww2 := HG.out.wid0
  have r0 : 1 ≤ s.width / t := by
    have := Int.ediv_le_ediv (show (0 : Int) < t by omega) (show t ≤ s.width by omega)
    rwa [Int.ediv_self (by omega)] at this
  have r1 : s.width / t * t ≤ s.width := Int.ediv_mul_le _ (by omega)
  have r2 : s.width / t * f + s.width / t * n ≤ s.width / t * t := by
    rw [← Int.mul_add]
    exact Int.mul_le_mul_of_nonneg_left (by omega) (by omega)
  have p0 : 0 ≤ s.width / t * f := Int.mul_nonneg (by omega) h3
  have p1 : s.width / t * f < 4294967296 := by
    have : 0 ≤ s.width / t * n := Int.mul_nonneg (by omega) (by omega)
    omega
  have q0 : 0 ≤ s.width / t * n := Int.mul_nonneg (by omega) (by omega)
  have q1 : s.width / t * n < 4294967296 := by omega
  have r3 : s.width / t < 4294967296 := by
    have := Int.ediv_le_self (a := s.width) t (by omega)
    omega
  clear r1 r2
  go_wp2
  have HE2 := Aside0.mk ((H1.out.set (s' := { s with low := s.low + s.width / t * f }) 0 _ rfl rfl).set (s' := partE f n t s) 1 (.int .i64 (s.width / t * n)) rfl rfl)
  have HM2 := Aside0.mk ((HM1.out.set H1.out.2.2 0 (.int .i64 (s.low + s.width / t * f))).set H1.out.2.2 1 (.int .i64 (s.width / t * n)))
  generalize (w1.setCell ⟨g, 0, none⟩ (.int .i64 (s.low + s.width / t * f))).setCell ⟨g, 1, none⟩ (.int .i64 (s.width / t * n)) = wz at HE2 HM2 ⊢
  have hsz : sizeE (partE f n t s) = sizeE s := rfl
  have hpe : putE f n t s = normE 3 (partE f n t s) := rfl
  generalize partE f n t s = s1 at HP HE2 hsz hpe
  have HPE := Aside0.mk hpe
  clear hpe
  have HSZ := Aside0.mk hsz
  clear c0 c1 f0 f1 ww0 l0 l1 ww2 r0 p0 p1 q0 q1 r3 hsz hw
  go_loopg [] 3 (fun k wr => ∃ (s' : Enc) (v' : Value), Aside0 (RefAt wr B g v' s') ∧ Aside0 (Moved B g w v wr v') ∧ Aside0 (Good s') ∧ Aside0 (normE k s' = normE 3 s1) ∧ Aside0 (16777216 ≤ s'.width * 256 ^ k) ∧ Aside0 (sizeE s' + k ≤ sizeE s + 3))
  case atStart => exact ⟨s1, v, HE2, HM2, HP, ⟨rfl⟩, ⟨by have := HP.out.wid0; omega⟩, ⟨by have := HSZ.out; omega⟩⟩
  case round =>
    obtain ⟨s', v', HE', HM', HG', HN', HW', HS'⟩ := hrel
    have c1 : wr.cell? ⟨g, 1, none⟩ = some (.int .i64 s'.width) := HE'.out.cell 1
    have f1 : wr.frozen? ⟨g, 1, none⟩ = false := blk_frozen HE'.out.1 1
    have w1 := HG'.out.wid1
    have w0 := HG'.out.wid0
    by_cases hlt : s'.width / 16777216 = 0
    · obtain ⟨k, rfl⟩ : ∃ k, gk = k + 1 := by
        rcases gk with _ | k
        · have := HW'.out
          simp at this
          omega
        · exact ⟨k, rfl⟩
      have HE3 := Aside0.mk (HE'.out.set (s' := { s' with width := s'.width * 256 }) 1 (.int .i64 (s'.width * 256)) rfl rfl)
      have HM3 := Aside0.mk (HM'.out.set HE'.out.2.2 1 (.int .i64 (s'.width * 256)))
      have HSH := Aside0.mk (rshift_any { s' with width := s'.width * 256 } B g v' _ HE3.out HG'.out.low0 (by have := HG'.out.low1; have := HG'.out.wid0; show s'.low < _; omega) HG'.out.held0 HG'.out.held1 HG'.out.count (by have := HS'.out; have := HL.out; unfold sizeE at *; show s'.count ≤ _; omega) (by have := HS'.out; have := HL.out; unfold sizeE at *; show s'.out.length + s'.count.toNat < _; omega))
      have HGW := Aside0.mk (wideE_good s' HG'.out hlt)
      have HNW : Aside0 (normE k (wideE s') = normE 3 s1) := ⟨by rw [← HN'.out, normE, if_pos hlt]⟩
      have HWW : Aside0 (16777216 ≤ (wideE s').width * 256 ^ k) := ⟨by
        have := HW'.out
        rw [show (wideE s').width = s'.width * 256 from shiftE_width _, Int.mul_assoc, Int.mul_comm 256, ← Int.pow_succ]
        exact this⟩
      have HSW : Aside0 (sizeE (wideE s') + k ≤ sizeE s + 3) := ⟨by
        have h1 := HS'.out
        have h2 : sizeE (wideE s') = sizeE s' + 1 := shiftE_size { s' with width := s'.width * 256 } HG'.out.count
        omega⟩
      go_wp2_with fail
      refine HSH.out.mono ?_
      rintro e w4 ⟨rfl, v4, hE4, hM4⟩
      have HE4 := Aside0.mk hE4
      have HM4 := Aside0.mk (HM3.out.trans hM4)
      clear hE4 hM4
      go_wp2
      go_roundg k
      case measure => omega
      case rel => exact ⟨wideE s', v4, HE4, HM4, HGW, HNW, HWW, HSW⟩
    · have HN2 := Aside0.mk (normE_stop gk s' hlt)
      go_wp2
      go_ret
      refine ⟨rfl, v', ?_, HM'.out⟩
      rw [HPE.out, ← HN'.out, HN2.out]
      exact HE'.out
set_option maxHeartbeats 4000000 in
set_option maxRecDepth 100000 in
theorem RNew_any (w : World) : Calls Try.prog 8 #[] w fun e w' => e = .returned (.pointer (some ⟨w.heap.size, 0, none⟩)) ∧ w' = w.alloc (.cells (refCells newE (.slice none 0 0)) 51) := by
  go_enter Try.func8, Try.ntmps8
  go_wp2
  go_ret
  exact ⟨rfl, rfl⟩
theorem rnew_at (w : World) (B : Nat) (hB : B ≤ w.heap.size) : RefAt (w.alloc (.cells (refCells newE (.slice none 0 0)) 51)) B w.heap.size (.slice none 0 0) newE := ⟨blk_new w _, BytesAt.nil _ _, hB⟩
set_option maxHeartbeats 4000000 in
set_option maxRecDepth 100000 in
theorem RBits_no (n k : Int) (a : Option Addr) (w : World) (h : ¬ bitsP n k) :
    Calls Try.prog 10 #[.pointer a, .int .i64 n, .int .i64 k] w fun e w' => e = .returned (.int .i64 1) ∧ Drawn0 w w' := by
  have hup := Try.underlying25
  have HM := Aside0.mk h
  clear h
  by_cases h1 : k < 1
  · go_enter Try.func10, Try.ntmps10
    go_wp2
    go_ret
    exact ⟨rfl, Drawn0.refl _⟩
  · by_cases h2 : 16 < k
    · go_enter Try.func10, Try.ntmps10
      go_wp2
      go_ret
      exact ⟨rfl, Drawn0.refl _⟩
    · by_cases h3 : n < 0
      · go_enter Try.func10, Try.ntmps10
        go_wp2
        go_ret
        exact ⟨rfl, Drawn0.refl _⟩
      · have b1 : 1 ≤ k := by omega
        have b2 : k ≤ 16 := by omega
        have b3 : 0 ≤ n := by omega
        have hle : (2 : Int) ^ k.toNat ≤ 65536 := by
          have h1 : (2 : Int) ^ k.toNat = ((2 ^ k.toNat : Nat) : Int) := by simp
          have h2 : 2 ^ k.toNat ≤ 2 ^ 16 := Nat.pow_le_pow_right (by decide) (by omega)
          rw [h1]
          omega
        have hpos : (0 : Int) < 2 ^ k.toNat := Int.pow_pos (by decide)
        have b4 : ¬ n < 2 ^ k.toNat := fun h => HM.out ⟨b1, b2, b3, h⟩
        have hwp : wrap64 (2 ^ k.toNat) = 2 ^ k.toNat := wrap_id _ (by omega) (by omega)
        obtain ⟨t, ht⟩ : ∃ t : Int, 2 ^ k.toNat = t := ⟨_, rfl⟩
        have hwp2 : wrap64 (2 ^ k.toNat) = t := by rw [hwp]; exact ht
        rw [ht] at b4 hle hpos
        clear ht hwp
        go_enter Try.func10, Try.ntmps10
        go_wp2
        go_ret
        exact ⟨rfl, Drawn0.refl _⟩
set_option maxHeartbeats 4000000 in
set_option maxRecDepth 100000 in
theorem RBits_yes (n k : Int) (s : Enc) (B g : Nat) (v : Value) (w : World) (h : RefAt w B g v s) (hg : Good s) (hw : 16777216 ≤ s.width) (hb : bitsP n k) (hl : sizeE s + 4 < 140737488355328) :
    Calls Try.prog 10 #[.pointer (some ⟨g, 0, none⟩), .int .i64 n, .int .i64 k] w fun e w' => e = .returned (.int .i64 0) ∧ ∃ v', RefAt w' B g v' (putE n 1 (2 ^ k.toNat) s) ∧ Moved B g w v w' v' := by
  have hup := Try.underlying25
  have hp := RPut_yes n 1 (2 ^ k.toNat) s B g v w h hg hw (bits_may n k hb) hl
  obtain ⟨b1, b2, b3, b4⟩ := hb
  have hle : (2 : Int) ^ k.toNat ≤ 65536 := by
    have h1 : (2 : Int) ^ k.toNat = ((2 ^ k.toNat : Nat) : Int) := by simp
    have h2 : 2 ^ k.toNat ≤ 2 ^ 16 := Nat.pow_le_pow_right (by decide) (by omega)
    rw [h1]
    omega
  have hpos : (0 : Int) < 2 ^ k.toNat := Int.pow_pos (by decide)
  have hwp : wrap64 (2 ^ k.toNat) = 2 ^ k.toNat := wrap_id _ (by omega) (by omega)
  obtain ⟨t, ht⟩ : ∃ t : Int, 2 ^ k.toNat = t := ⟨_, rfl⟩
  rw [ht] at hp hwp b4 hle hpos
  have hwp2 : wrap64 (2 ^ k.toNat) = t := by rw [ht]; exact hwp
  have HP := Aside0.mk hp
  have HT := Aside0.mk ht
  clear hp hwp ht
  go_enter Try.func10, Try.ntmps10
  go_wp2_with fail
  refine HP.out.mono ?_
  rintro e w1 ⟨rfl, v1, hE, hM⟩
  have HE := Aside0.mk hE
  have HM := Aside0.mk hM
  clear hE hM
  go_wp2
  go_ret
  rw [HT.out]
  exact ⟨rfl, v1, HE.out, HM.out⟩
end Go.Proofs.Ytaojnjjajnbgoaa.Hand
