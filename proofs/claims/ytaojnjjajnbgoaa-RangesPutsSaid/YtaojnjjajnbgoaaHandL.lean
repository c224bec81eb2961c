/- Contracts of layer 18, proved by hand: awake; RangesNone. -/
import Derived.Test.YtaojnjjajnbgoaaHandK
namespace Go.Proofs.Ytaojnjjajnbgoaa.Hand
open Go.RowKit Go.Proofs.Ytaojnjjajnbgoaa.Q Go.Proofs.YtaojnjjajnbgoaaW.PrintWords Go.Proofs.YtaojnjjajnbgoaaW.PrintLast Go.Proofs.YtaojnjjajnbgoaaW.PrintMore
set_option linter.unusedVariables false
set_option linter.unusedSimpArgs false

theorem ex_none : finishS newE = ⟨#[0, 0, 0, 0, 0]⟩ := by decide +kernel
theorem ex_half : finishS (putE 1 1 2 newE) = ⟨#[0, 127, 255, 255, 255]⟩ := by decide +kernel
theorem ex_five : finishS (putE 5 1 (2 ^ (4 : Int).toNat) newE) = ⟨#[0, 79, 255, 255, 251]⟩ := by decide +kernel
def exD : Dec := ofD ⟨#[0, 79, 255, 255, 251]⟩
theorem ex_taken : (bitsD 4 exD).1 = 5 ∧ (bitsD 4 exD).2.1 = 0 ∧ (bitsD 4 exD).2.2.pos = 5 := by decide +kernel
theorem ex_bad : peekD (ofD ⟨#[1]⟩) 2 = (0, 2) := by decide +kernel
theorem good_half : Good (putE 1 1 2 newE) := ⟨by decide +kernel, by decide +kernel, by decide +kernel, by decide +kernel, by decide +kernel, by decide +kernel, by decide +kernel⟩
theorem good_five : Good (putE 5 1 (2 ^ (4 : Int).toNat) newE) := ⟨by decide +kernel, by decide +kernel, by decide +kernel, by decide +kernel, by decide +kernel, by decide +kernel, by decide +kernel⟩
theorem below_drawn {B : Nat} {w w1 w2 : World} (h : Below B w w1) (k : Drawn0 w1 w2) : Below B w w2 := by
  obtain ⟨m, rfl⟩ := k
  exact pw_below_drewN h m
set_option maxHeartbeats 4000000 in
set_option maxRecDepth 100000 in
theorem awake_any (w : World) : Calls Try.prog 15 #[] w fun e w' => e = .returned (.bool true) ∧ Below w.heap.size w w' := by
  have hup := Try.underlying23
  have hup2 := Try.underlying37
  go_enter Try.func15, Try.ntmps15
  go_wp2_with fail
  refine (New_any _).mono ?_
  rintro e w1 ⟨rfl, rfl⟩
  have HE := Aside0.mk (new_at w w.heap.size (Nat.le_refl _))
  have HB := Aside0.mk ((Below.refl w.heap.size w).alloc (Nat.le_refl _) (.cells (encCells newE (.slice none 0 0)) 49))
  generalize w.alloc (.cells (encCells newE (.slice none 0 0)) 49) = w1 at HE HB ⊢
  go_wp2_with fail
  refine (Finish_any newE w.heap.size w.heap.size _ _ HE.out newE_good (by decide)).mono ?_
  rintro e w2 ⟨rfl, v2, hE, hM⟩
  have HE2 := Aside0.mk hE
  have HB2 := Aside0.mk (HB.out.trans hM.below)
  clear hE hM HE HB
  rw [ex_none]
  go_wp2_with fail
  refine (Put_yes 1 1 2 newE w.heap.size w.heap.size _ _ HE2.out newE_good (by decide) (by decide) (by decide)).mono ?_
  rintro e w3 ⟨rfl, v3, hE, hM⟩
  have HE3 := Aside0.mk hE
  have HB3 := Aside0.mk (HB2.out.trans hM.below)
  clear hE hM HE2 HB2
  go_wp2_with fail
  refine (Finish_any (putE 1 1 2 newE) w.heap.size w.heap.size _ _ HE3.out good_half (by decide +kernel)).mono ?_
  rintro e w4 ⟨rfl, v4, hE, hM⟩
  have HE4 := Aside0.mk hE
  have HB4 := Aside0.mk (HB3.out.trans hM.below)
  clear hE hM HE3 HB3
  rw [ex_half]
  go_wp2_with fail
  refine (Bits_yes 5 4 newE w.heap.size w.heap.size _ _ HE4.out newE_good (by decide) (by decide) (by decide)).mono ?_
  rintro e w5 ⟨rfl, v5, hE, hM⟩
  have HE5 := Aside0.mk hE
  have HB5 := Aside0.mk (HB4.out.trans hM.below)
  clear hE hM HE4 HB4
  go_wp2_with fail
  refine (Finish_any (putE 5 1 (2 ^ (4 : Int).toNat) newE) w.heap.size w.heap.size _ _ HE5.out good_five (by decide +kernel)).mono ?_
  rintro e w6 ⟨rfl, v6, hE, hM⟩
  have HB6 := Aside0.mk (HB5.out.trans hM.below)
  clear hE hM HE5 HB5
  rw [ex_five]
  go_wp2_with fail
  refine (Of_any ⟨#[0, 79, 255, 255, 251]⟩ (by decide) w.heap.size w6 HB6.out.size).mono ?_
  rintro e w7 ⟨g, rfl, hg, hD, hB⟩
  have HD7 : Aside0 (DecAt w7 g exD) := ⟨hD⟩
  have HG : Aside0 (w.heap.size ≤ g) := ⟨Nat.le_trans HB6.out.size hg⟩
  have HB7 := Aside0.mk (HB6.out.trans (hB.mono HB6.out.size))
  clear hD hg hB HB6
  go_wp2_with fail
  refine (BitsD_any exD 4 (ofD_ok _) (by decide) w.heap.size g HG.out w7 HD7.out).mono ?_
  rintro e w8 ⟨rfl, hD, hT⟩
  have HD8 := Aside0.mk hD
  have HB8 := Aside0.mk (HB7.out.trans hT.below)
  clear hD hT HD7 HB7
  rw [ex_taken.1, ex_taken.2.1]
  go_wp2_with fail
  refine (Of_any ⟨#[1]⟩ (by decide) w.heap.size w8 HB8.out.size).mono ?_
  rintro e w9 ⟨g2, rfl, hg2, hD2, hB2⟩
  have HD9 := Aside0.mk hD2
  have HD8' := Aside0.mk (HD8.out.below hB2)
  have HB9 := Aside0.mk (HB8.out.trans (hB2.mono HB8.out.size))
  clear hg2 hD2 hB2 HD8 HB8
  go_wp2_with fail
  refine (Peek_any _ 2 g2 w9 HD9.out (ofD_ok _)).mono ?_
  rintro e w10 ⟨rfl, ⟨m, rfl⟩⟩
  have HD10 := Aside0.mk (HD8'.out.below (pw_below_drewN (Below.refl _ _) m))
  have HB10 := Aside0.mk (pw_below_drewN HB9.out m)
  generalize w9.drewN m = w10 at HD10 HB10 ⊢
  clear HD8' HB9 HD9
  rw [ex_bad]
  go_wp2_with fail
  refine (Used_any _ g w10 HD10.out).mono ?_
  rintro e w11 ⟨rfl, ⟨q, rfl⟩⟩
  rw [ex_taken.2.2]
  go_wp2
  go_ret
  exact ⟨rfl, pw_below_drewN HB10.out q⟩
set_option maxHeartbeats 4000000 in
set_option maxRecDepth 100000 in
theorem None_any (b : Bool) (f n t : Int) (w : World) : Calls Try.prog 6 #[.agg #[.bool b, .int .i64 f, .int .i64 n, .int .i64 t]] w fun e w' => e = .returned (.bool true) ∧ Below w.heap.size w w' := by
  have hup := Try.underlying23
  have hup2 := Try.underlying37
  go_enter Try.func6, Try.ntmps6
  go_wp2_with fail
  refine (Peek_nil _ _).mono ?_
  rintro e w1 ⟨rfl, ⟨m1, rfl⟩⟩
  go_wp2_with fail
  refine (BitsD_nil _ _).mono ?_
  rintro e w1 ⟨rfl, ⟨m2, rfl⟩⟩
  go_wp2_with fail
  refine (Put_no _ _ _ none _ (.inl rfl)).mono ?_
  rintro e w1 ⟨rfl, ⟨m3, rfl⟩⟩
  go_wp2_with fail
  refine (Bits_no _ _ none _ (.inl rfl)).mono ?_
  rintro e w1 ⟨rfl, ⟨m4, rfl⟩⟩
  go_wp2_with fail
  refine (Finish_nil _).mono ?_
  rintro e w1 ⟨rfl, ⟨m5, rfl⟩⟩
  go_wp2_with fail
  refine (Take_nil _ _ _ _).mono ?_
  rintro e w1 ⟨rfl, ⟨m6, rfl⟩⟩
  go_wp2_with fail
  refine (Used_nil _).mono ?_
  rintro e w1 ⟨rfl, ⟨m7, rfl⟩⟩
  go_wp2_with fail
  refine (awake_any _).mono ?_
  rintro e w2 ⟨rfl, hB⟩
  have HB := Aside0.mk hB
  clear hB
  go_wp2
  go_ret
  refine ⟨rfl, ?_⟩
  have h1 := pw_below_drewN (below_alloc (Below.refl w.heap.size w) (.cells #[.bool b, .int .i64 f, .int .i64 n, .int .i64 t] 28)) (m1 + m2 + m3 + m4 + m5 + m6 + m7)
  exact h1.trans (HB.out.mono h1.size)
end Go.Proofs.Ytaojnjjajnbgoaa.Hand
