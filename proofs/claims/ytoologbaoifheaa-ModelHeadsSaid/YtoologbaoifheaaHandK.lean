/- Contracts of layer 18, proved by hand: a decoder's Take and Bits. -/
import Derived.Test.YtoologbaoifheaaHandJ
namespace Go.Proofs.Ytoologbaoifheaa.Hand
open Go.RowKit Go.Proofs.Ytoologbaoifheaa.Q Go.Proofs.YtoologbaoifheaaW.PrintWords Go.Proofs.YtoologbaoifheaaW.PrintLast Go.Proofs.YtoologbaoifheaaW.PrintMore
set_option linter.unusedVariables false
set_option linter.unusedSimpArgs false

theorem Take_any (d : Dec) (f n t : Int) (hg : GoodD d) (hsz : d.s.size ≤ 9223372036854775807) (B g : Nat) (hB : B ≤ g) (w : World) (h : DecAt w g d) :
    Calls Try.prog 50 #[.pointer (some ⟨g, 0, none⟩), .int .i64 f, .int .i64 n, .int .i64 t] w fun e w' => e = .returned (.int .i64 (takeD f n t d).1) ∧ DecAt w' g (takeD f n t d).2 ∧ Turned B g w w' := by
  by_cases hm : mayP f n t
  · cases hb : d.bad with
    | true =>
      have e : takeD f n t d = (2, d) := by unfold takeD; rw [if_pos hm, if_pos hb]
      rw [e]
      exact Take_bad d f n t hm hg hb B g hB w h
    | false =>
      by_cases h1 : (peekD d t).1 < f ∨ n ≤ (peekD d t).1 - f
      · have e : takeD f n t d = (2, d) := by unfold takeD; rw [if_pos hm, if_neg (by rw [hb]; decide), if_pos h1]
        rw [e]
        exact Take_else d f n t hm hg hb h1 B g hB w h
      · have e : takeD f n t d = onD f n t d := by unfold takeD; rw [if_pos hm, if_neg (by rw [hb]; decide), if_neg h1]; rfl
        rw [e]
        exact Take_on d f n t hm hg hb h1 hsz B g hB w h
  · have e : takeD f n t d = (1, d) := by unfold takeD; rw [if_neg hm]
    rw [e]
    exact Take_no d f n t hm B g hB w h
/-- A number of so many bits, taken. -/
def bitsD (k : Int) (d : Dec) : Int × Int × Dec :=
  if k < 1 ∨ 16 < k then (0, 1, d) else if d.bad = true then (0, 2, d) else
    if (takeD (peekD d (2 ^ k.toNat)).1 1 (2 ^ k.toNat) d).1 = 0 then ((peekD d (2 ^ k.toNat)).1, 0, (takeD (peekD d (2 ^ k.toNat)).1 1 (2 ^ k.toNat) d).2) else (0, (takeD (peekD d (2 ^ k.toNat)).1 1 (2 ^ k.toNat) d).1, (takeD (peekD d (2 ^ k.toNat)).1 1 (2 ^ k.toNat) d).2)
theorem bitsD_good (k : Int) (d : Dec) (h : GoodD d) : GoodD (bitsD k d).2.2 := by
  unfold bitsD
  split
  · exact h
  · split
    · exact h
    · split
      · exact takeD_good d _ _ _ h
      · exact takeD_good d _ _ _ h
set_option maxHeartbeats 4000000 in
set_option maxRecDepth 100000 in
theorem BitsD_nil (k : Int) (w : World) : Calls Try.prog 51 #[.pointer none, .int .i64 k] w fun e w' => e = .returned (.tuple #[.int .i64 0, .int .i64 1]) ∧ Drawn0 w w' := by
  have hup := Try.underlying67
  go_enter Try.func51, Try.ntmps51
  go_wp2
  go_ret2
  exact ⟨rfl, Drawn0.refl _⟩
set_option maxHeartbeats 4000000 in
set_option maxRecDepth 100000 in
theorem BitsD_any (d : Dec) (k : Int) (hg : GoodD d) (hsz : d.s.size ≤ 9223372036854775807) (B g : Nat) (hB : B ≤ g) (w : World) (h : DecAt w g d) :
    Calls Try.prog 51 #[.pointer (some ⟨g, 0, none⟩), .int .i64 k] w fun e w' => e = .returned (.tuple #[.int .i64 (bitsD k d).1, .int .i64 (bitsD k d).2.1]) ∧ DecAt w' g (bitsD k d).2.2 ∧ Turned B g w w' := by
  have hup := Try.underlying67
  have HD := Aside0.mk h
  have HG := Aside0.mk hg
  clear h hg
  by_cases hk : k < 1 ∨ 16 < k
  · have HE : Aside0 (bitsD k d = (0, 1, d)) := ⟨if_pos hk⟩
    rcases hk with hk | hk
    · go_enter Try.func51, Try.ntmps51
      go_wp2
      go_ret2
      rw [HE.out]
      exact ⟨rfl, HD.out, Turned.refl _ _ _⟩
    · have hk1 : ¬ k < 1 := by omega
      go_enter Try.func51, Try.ntmps51
      go_wp2
      go_ret2
      rw [HE.out]
      exact ⟨rfl, HD.out, Turned.refl _ _ _⟩
  · have k1 : 1 ≤ k := by omega
    have k2 : k ≤ 16 := by omega
    have hle : (2 : Int) ^ k.toNat ≤ 65536 := by
      have h1 : (2 : Int) ^ k.toNat = ((2 ^ k.toNat : Nat) : Int) := by simp
      have h2 : 2 ^ k.toNat ≤ 2 ^ 16 := Nat.pow_le_pow_right (by decide) (by omega)
      rw [h1]
      omega
    have hpos : (0 : Int) < 2 ^ k.toNat := Int.pow_pos (by decide)
    have hwp : wrap64 (2 ^ k.toNat) = 2 ^ k.toNat := wrap_id _ (by omega) (by omega)
    obtain ⟨t, ht⟩ : ∃ t : Int, 2 ^ k.toNat = t := ⟨_, rfl⟩
    rw [ht] at hle hpos
    have hwp2 : wrap64 (2 ^ k.toNat) = t := by rw [hwp, ht]
    have hE : bitsD k d = if d.bad = true then (0, 2, d) else if (takeD (peekD d t).1 1 t d).1 = 0 then ((peekD d t).1, 0, (takeD (peekD d t).1 1 t d).2) else (0, (takeD (peekD d t).1 1 t d).1, (takeD (peekD d t).1 1 t d).2) := by
      unfold bitsD
      rw [if_neg hk, ht]
    cases hb : d.bad with
    | true =>
      rw [if_pos hb] at hE
      have HE := Aside0.mk hE
      have hp : peekD d t = (0, 2) := by unfold peekD; rw [if_neg (by omega), if_pos hb]
      have hpk := Peek_any d t g w HD.out HG.out
      rw [hp] at hpk
      have HP := Aside0.mk hpk
      clear hE hp hpk ht hwp hb hk
      go_enter Try.func51, Try.ntmps51
      go_wp2_with fail
      refine HP.out.mono ?_
      rintro e w1 ⟨rfl, ⟨m, rfl⟩⟩
      go_wp2
      go_ret2
      rw [HE.out]
      exact ⟨rfl, HD.out.below (pw_below_drewN (Below.refl _ _) m), (Turned.refl B g w).drewN m⟩
    | false =>
      rw [if_neg (by rw [hb]; decide)] at hE
      have hp : (peekD d t).2 = 0 := by unfold peekD; rw [if_neg (by omega), if_neg (by rw [hb]; decide)]
      have hpk := Peek_any d t g w HD.out HG.out
      rw [hp] at hpk
      have htk := fun W (hW : DecAt W g d) => Take_any d (peekD d t).1 1 t HG.out hsz B g hB W hW
      obtain ⟨x, hx⟩ : ∃ x, (peekD d t).1 = x := ⟨_, rfl⟩
      rw [hx] at hE hpk htk
      obtain ⟨p, hpp⟩ : ∃ p, takeD x 1 t d = p := ⟨_, rfl⟩
      rw [hpp] at hE htk
      obtain ⟨e2, d2⟩ := p
      have HP := Aside0.mk hpk
      have HT := Aside0.mk htk
      clear hp hpk htk ht hwp hb hk hx hpp
      by_cases h0 : e2 = 0
      · have HE : Aside0 (bitsD k d = (x, 0, d2)) := ⟨by rw [hE]; exact if_pos h0⟩
        subst h0
        clear hE
        go_enter Try.func51, Try.ntmps51
        go_wp2_with fail
        refine HP.out.mono ?_
        rintro e w1 ⟨rfl, ⟨m, rfl⟩⟩
        have HD1 := Aside0.mk (HD.out.below (pw_below_drewN (Below.refl _ _) m))
        have HT1 := Aside0.mk ((Turned.refl B g w).drewN m)
        generalize w.drewN m = w1 at HD1 HT1 ⊢
        go_wp2_with fail
        refine (HT.out _ HD1.out).mono ?_
        rintro e w2 ⟨rfl, hd2, ht2⟩
        have HD2 := Aside0.mk hd2
        have HT2 := Aside0.mk (HT1.out.trans ht2)
        clear hd2 ht2
        go_wp2
        go_ret2
        rw [HE.out]
        exact ⟨rfl, HD2.out, HT2.out⟩
      · have HE : Aside0 (bitsD k d = (0, e2, d2)) := ⟨by rw [hE]; exact if_neg h0⟩
        have hbe : (e2 == 0) = false := by simp [h0]
        have hbn : (e2 != 0) = true := by simp [h0]
        clear hE
        go_enter Try.func51, Try.ntmps51
        go_wp2_with fail
        refine HP.out.mono ?_
        rintro e w1 ⟨rfl, ⟨m, rfl⟩⟩
        have HD1 := Aside0.mk (HD.out.below (pw_below_drewN (Below.refl _ _) m))
        have HT1 := Aside0.mk ((Turned.refl B g w).drewN m)
        generalize w.drewN m = w1 at HD1 HT1 ⊢
        go_wp2_with fail
        refine (HT.out _ HD1.out).mono ?_
        rintro e w2 ⟨rfl, hd2, ht2⟩
        have HD2 := Aside0.mk hd2
        have HT2 := Aside0.mk (HT1.out.trans ht2)
        clear hd2 ht2
        go_wp2
        go_ret2
        rw [HE.out]
        exact ⟨rfl, HD2.out, HT2.out⟩
end Go.Proofs.Ytoologbaoifheaa.Hand
