/- Contracts of layer 18, proved by hand: a decoder's Take, where a part may be. -/
import Derived.Test.YtoologbaoifheaaHandH
namespace Go.Proofs.Ytoologbaoifheaa.Hand
open Go.RowKit Go.Proofs.Ytoologbaoifheaa.Q Go.Proofs.YtoologbaoifheaaW.PrintWords Go.Proofs.YtoologbaoifheaaW.PrintLast Go.Proofs.YtoologbaoifheaaW.PrintMore
set_option linter.unusedVariables false
set_option linter.unusedSimpArgs false

theorem peek_fine (d : Dec) (f n t : Int) (hb : d.bad = false) (hm : mayP f n t) : (peekD d t).2 = 0 ∧ ((peekD d t).1 = d.code / (d.width / t) ∨ (peekD d t).1 = t - 1) := by
  obtain ⟨m1, m2, m3, m4, m5, m6⟩ := hm
  unfold peekD
  rw [if_neg (by omega), if_neg (by rw [hb]; decide)]
  refine ⟨rfl, ?_⟩
  show (if d.code / (d.width / t) ≤ t - 1 then d.code / (d.width / t) else t - 1) = _ ∨ (if d.code / (d.width / t) ≤ t - 1 then d.code / (d.width / t) else t - 1) = _
  split
  · exact .inl rfl
  · exact .inr rfl
set_option maxHeartbeats 4000000 in
set_option maxRecDepth 100000 in
theorem Take_bad (d : Dec) (f n t : Int) (hm : mayP f n t) (hg : GoodD d) (hb : d.bad = true) (B g : Nat) (hB : B ≤ g) (w : World) (h : DecAt w g d) :
    Calls Try.prog 50 #[.pointer (some ⟨g, 0, none⟩), .int .i64 f, .int .i64 n, .int .i64 t] w fun e w' => e = .returned (.int .i64 2) ∧ DecAt w' g d ∧ Turned B g w w' := by
  have hup := Try.underlying67
  have HM := Aside0.mk hm
  have HD := Aside0.mk h
  have hp : peekD d t = (0, 2) := by unfold peekD; rw [if_neg (by obtain ⟨m1, m2, m3⟩ := hm; omega), if_pos hb]
  have HP := Aside0.mk hp
  have HG := Aside0.mk hg
  clear hm h hp hg hb
  go_enter Try.func50, Try.ntmps50
  go_wp2_with fail
  refine (may_yes f n t HM.out _).mono ?_
  rintro e w1 ⟨rfl, ⟨m, rfl⟩⟩
  go_wp2_with fail
  refine (Peek_any d t g _ (HD.out.below (pw_below_drewN (Below.refl _ _) m)) HG.out).mono ?_
  rintro e w2 ⟨rfl, ⟨m2, rfl⟩⟩
  rw [HP.out]
  go_wp2
  go_ret
  exact ⟨rfl, HD.out.below (pw_below_drewN (Below.refl _ _) (m + m2)), (Turned.refl B g w).drewN (m + m2)⟩
set_option maxHeartbeats 4000000 in
set_option maxRecDepth 100000 in
theorem Take_else (d : Dec) (f n t : Int) (hm : mayP f n t) (hg : GoodD d) (hb : d.bad = false) (h1 : (peekD d t).1 < f ∨ n ≤ (peekD d t).1 - f) (B g : Nat) (hB : B ≤ g) (w : World) (h : DecAt w g d) :
    Calls Try.prog 50 #[.pointer (some ⟨g, 0, none⟩), .int .i64 f, .int .i64 n, .int .i64 t] w fun e w' => e = .returned (.int .i64 2) ∧ DecAt w' g d ∧ Turned B g w w' := by
  have hup := Try.underlying67
  have HM := Aside0.mk hm
  have HD := Aside0.mk h
  have hp := (peek_fine d f n t hb hm).1
  have HG := Aside0.mk hg
  have hk := Peek_any d t g
  rw [hp] at hk
  obtain ⟨x, hx⟩ : ∃ x, (peekD d t).1 = x := ⟨_, rfl⟩
  rw [hx] at hk h1
  have hx0 : 0 ≤ x ∧ x < 65536 := by
    have hc := (peek_fine d f n t hb hm).2
    obtain ⟨m1, m2, m3, m4, m5, m6⟩ := hm
    have k0 := hg.code0
    have hw := hg.wid0 hb
    have hq : 0 ≤ d.code / (d.width / t) := Int.ediv_nonneg k0 (Int.ediv_nonneg (by omega) (by omega))
    have hx1 : (peekD d t).1 ≤ t - 1 := by
      unfold peekD
      rw [if_neg (by omega), if_neg (by rw [hb]; decide)]
      show (if d.code / (d.width / t) ≤ t - 1 then d.code / (d.width / t) else t - 1) ≤ _
      split <;> omega
    omega
  have HK := Aside0.mk hk
  obtain ⟨x0, x1⟩ := hx0
  obtain ⟨m1, m2, m3, m4, m5, m6⟩ := hm
  clear h hp hg hb hk hx
  rcases h1 with h1 | h1
  · go_enter Try.func50, Try.ntmps50
    go_wp2_with fail
    refine (may_yes f n t HM.out _).mono ?_
    rintro e w1 ⟨rfl, ⟨m, rfl⟩⟩
    go_wp2_with fail
    refine (HK.out _ (HD.out.below (pw_below_drewN (Below.refl _ _) m)) HG.out).mono ?_
    rintro e w2 ⟨rfl, ⟨m2, rfl⟩⟩
    go_wp2
    go_ret
    exact ⟨rfl, HD.out.below (pw_below_drewN (Below.refl _ _) (m + m2)), (Turned.refl B g w).drewN (m + m2)⟩
  · by_cases h2 : x < f
    · go_enter Try.func50, Try.ntmps50
      go_wp2_with fail
      refine (may_yes f n t HM.out _).mono ?_
      rintro e w1 ⟨rfl, ⟨m, rfl⟩⟩
      go_wp2_with fail
      refine (HK.out _ (HD.out.below (pw_below_drewN (Below.refl _ _) m)) HG.out).mono ?_
      rintro e w2 ⟨rfl, ⟨m2, rfl⟩⟩
      go_wp2
      go_ret
      exact ⟨rfl, HD.out.below (pw_below_drewN (Below.refl _ _) (m + m2)), (Turned.refl B g w).drewN (m + m2)⟩
    · go_enter Try.func50, Try.ntmps50
      go_wp2_with fail
      refine (may_yes f n t HM.out _).mono ?_
      rintro e w1 ⟨rfl, ⟨m, rfl⟩⟩
      go_wp2_with fail
      refine (HK.out _ (HD.out.below (pw_below_drewN (Below.refl _ _) m)) HG.out).mono ?_
      rintro e w2 ⟨rfl, ⟨m2, rfl⟩⟩
      go_wp2
      go_ret
      exact ⟨rfl, HD.out.below (pw_below_drewN (Below.refl _ _) (m + m2)), (Turned.refl B g w).drewN (m + m2)⟩
end Go.Proofs.Ytoologbaoifheaa.Hand
