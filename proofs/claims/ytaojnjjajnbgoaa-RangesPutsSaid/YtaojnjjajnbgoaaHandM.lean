/- Contracts of layer 18, proved by hand: RangesLess. -/
import Derived.Test.YtaojnjjajnbgoaaHandL
namespace Go.Proofs.Ytaojnjjajnbgoaa.Hand
open Go.RowKit Go.Proofs.Ytaojnjjajnbgoaa.Q Go.Proofs.YtaojnjjajnbgoaaW.PrintWords Go.Proofs.YtaojnjjajnbgoaaW.PrintLast Go.Proofs.YtaojnjjajnbgoaaW.PrintMore
set_option linter.unusedVariables false
set_option linter.unusedSimpArgs false

def wholeE (t : Int) : Enc := { newE with width := 4294967295 / t * t }
theorem whole_t (t : Int) (h1 : 1 ≤ t) (h2 : t ≤ 65536) : putE 0 t t newE = wholeE t ∧ Good (wholeE t) ∧ 16777216 ≤ (wholeE t).width := by
  have r1 : 4294967295 / t * t ≤ 4294967295 := Int.ediv_mul_le _ (by omega)
  have r2 := Int.lt_ediv_add_one_mul_self 4294967295 (show (0 : Int) < t by omega)
  rw [Int.add_mul] at r2
  have hw : 16777216 ≤ (wholeE t).width := by show 16777216 ≤ 4294967295 / t * t; omega
  have he : partE 0 t t newE = wholeE t := by
    unfold partE wholeE newE
    simp
  refine ⟨?_, ?_, hw⟩
  · unfold putE
    rw [he]
    exact normE_stop 3 _ (by omega)
  · exact ⟨(by decide : (0 : Int) ≤ 0), show (0 : Int) + 4294967295 / t * t ≤ 8589934592 by omega, show 1 ≤ 4294967295 / t * t by omega, show 4294967295 / t * t < 4294967296 by omega, (by decide : (0 : Int) ≤ 0), (by decide : (0 : Int) < 256), (by decide : (1 : Int) ≤ 1)⟩
theorem whole_one : putE 0 1 1 newE = newE := by
  rw [(whole_t 1 (by decide) (by decide)).1]
  unfold wholeE newE
  simp
theorem whole_fin (t : Int) : (finishS (wholeE t)).size = 5 := by
  have e : (shifts 5 (wholeE t)).out = [0, 0, 0, 0, 0] := by rfl
  unfold finishS
  rw [e]
  rfl
set_option maxHeartbeats 4000000 in
set_option maxRecDepth 100000 in
theorem Less_any (n t : Int) (hn0 : -9223372036854775808 ≤ n) (hn1 : n ≤ 9223372036854775807) (w : World) : Calls Try.prog 5 #[.int .i64 n, .int .i64 t] w fun e w' => e = .returned (.bool true) ∧ Below w.heap.size w w' := by
  have hup := Try.underlying23
  go_enter Try.func5, Try.ntmps5
  go_wp2_with fail
  refine (New_any _).mono ?_
  rintro e w1 ⟨rfl, rfl⟩
  have HE := Aside0.mk (new_at w w.heap.size (Nat.le_refl _))
  have HB := Aside0.mk ((Below.refl w.heap.size w).alloc (Nat.le_refl _) (.cells (encCells newE (.slice none 0 0)) 49))
  generalize w.alloc (.cells (encCells newE (.slice none 0 0)) 49) = w1 at HE HB ⊢
  go_wp2
  go_loopw [6] (fun i wr => ∃ (d : Nat) (v : Value), d ≤ 200 ∧ i = .int .i64 d ∧ Aside0 (EncAt wr w.heap.size w.heap.size v newE) ∧ Aside0 (Below w.heap.size w wr)) (fun i _ => 200 - (intOf i).toNat)
  case atStart => exact ⟨0, _, by omega, rfl, HE, HB⟩
  case round =>
    obtain ⟨d, v, hd, rfl, HE, HB⟩ := hrel
    by_cases hc : d < 200 ∧ (d : Int) < n
    · obtain ⟨hc1, hc2⟩ := hc
      have hc3 : (d : Int) < 200 := by omega
      go_wp2_with fail
      all_goals first
        | (exfalso; omega)
        | skip
      all_goals
        refine (Put_yes 0 1 1 newE w.heap.size w.heap.size _ _ HE.out newE_good (by decide) (by decide) (by decide)).mono ?_
        rintro e w3 ⟨rfl, v3, hE, hM⟩
        rw [whole_one] at hE
        have HE3 := Aside0.mk hE
        have HB3 := Aside0.mk (HB.out.trans hM.below)
        clear hE hM
        go_wp2
        go_roundw
        case rel => exact ⟨d + 1, v3, by omega, by go_num, HE3, HB3⟩
        case measure => simp [intOf]; omega
    · have hc1 : (200 : Int) ≤ d ∨ n ≤ (d : Int) := by omega
      go_wp2_with fail
      all_goals first
        | (exfalso; omega)
        | skip
      all_goals
        refine (Finish_any newE w.heap.size w.heap.size _ _ HE.out newE_good (by decide)).mono ?_
        rintro e w2 ⟨rfl, v2, hE, hM⟩
        have HE2 := Aside0.mk hE
        have HB2 := Aside0.mk (HB.out.trans hM.below)
        clear hE hM HE HB
        rw [ex_none]
        go_wp2_with fail
        refine (Put_yes 0 _ _ newE w.heap.size w.heap.size _ _ HE2.out newE_good (by decide) (by refine ⟨?_, ?_, ?_, ?_, ?_, ?_⟩ <;> omega) (by decide)).mono ?_
        rintro e w3 ⟨rfl, v3, hE, hM⟩
        rw [(whole_t _ (by omega) (by omega)).1] at hE
        have HE3 := Aside0.mk hE
        have HB3 := Aside0.mk (HB2.out.trans hM.below)
        clear hE hM HE2 HB2
        go_wp2_with fail
        refine (Finish_any (wholeE _) w.heap.size w.heap.size _ _ HE3.out (whole_t _ (by omega) (by omega)).2.1 (show 0 + 1 + 8 < 140737488355328 by decide)).mono ?_
        rintro e w4 ⟨rfl, v4, hE, hM⟩
        have HB4 := Aside0.mk (HB3.out.trans hM.below)
        clear hE hM HE3 HB3
        have hz := whole_fin
        go_wp2_with fail
        refine (awake_any _).mono ?_
        rintro e w5 ⟨rfl, hB⟩
        have HB5 := Aside0.mk (HB4.out.trans (hB.mono HB4.out.size))
        clear hB
        go_wp2
        go_ret
        exact ⟨rfl, HB5.out⟩
end Go.Proofs.Ytaojnjjajnbgoaa.Hand
