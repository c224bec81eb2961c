/- The plain law of PredictModes. -/
import Derived.Test.YtbbedocehejfgaaMathC
namespace Go.Proofs.Ytbbedocehejfgaa.Math
open Go.RowKit Go.Proofs.Ytbbedocehejfgaa Go.Proofs.Ytbbedocehejfgaa.Q Go.Proofs.YtbbedocehejfgaaW.PrintWords Go.Proofs.YtbbedocehejfgaaW.PrintLast Go.Proofs.YtbbedocehejfgaaW.PrintMore
set_option linter.unusedVariables false
set_option linter.unusedSimpArgs false

theorem rd_map (f : Nat → Int) (n j : Nat) (h : j < n) : rd ((List.range n).map f) (j : Nat) = f j := by
  simp [rd, List.getD_eq_getElem?_getD, h]
theorem map_rd (a : List Int) : (List.range a.length).map (fun j => rd a (j : Nat)) = a := by
  apply List.ext_getElem
  · simp
  · intro i h1 h2
    simp [rd, List.getD_eq_getElem?_getD, h2]
theorem back2 (mode x y : Int) (hx : Hand.inside 1099511627776 x) (hy : Hand.inside 1099511627776 y) :
    Hand.inside 4398046511104 (Hand.stereo2 mode x y).1 ∧ Hand.inside 4398046511104 (Hand.stereo2 mode x y).2 ∧ Hand.unstereo2 mode (Hand.stereo2 mode x y).1 (Hand.stereo2 mode x y).2 = (x, y) := by
  unfold Hand.inside at *
  unfold Hand.stereo2 Hand.unstereo2
  by_cases m1 : mode = 1
  · simp only [m1, if_true]
    rw [wrap_id (x - y) (by omega) (by omega), wrap_id _ (by omega) (by omega)]
    refine ⟨by omega, by omega, ?_⟩
    rw [show x - (x - y) = y by omega]
  by_cases m2 : mode = 2
  · simp only [m2, if_true, show ¬ ((2 : Int) = 1) by decide, if_false]
    rw [wrap_id (x - y) (by omega) (by omega), wrap_id _ (by omega) (by omega)]
    refine ⟨by omega, by omega, ?_⟩
    rw [show x - y + y = x by omega]
  by_cases m3 : mode = 3
  · simp only [m3, if_true, show ¬ ((3 : Int) = 1) by decide, show ¬ ((3 : Int) = 2) by decide, if_false]
    rw [wrap_id (x - y) (by omega) (by omega), wrap_id (x + y) (by omega) (by omega), wrap_id ((x + y) / 2 - (x - y) / 2) (by omega) (by omega), wrap_id _ (by omega) (by omega)]
    refine ⟨by omega, by omega, ?_⟩
    rw [show (x + y) / 2 - (x - y) / 2 = y by omega, show y + (x - y) = x by omega]
  · simp only [m1, m2, m3, if_false]
    exact ⟨by omega, by omega, trivial⟩
theorem modes_back (mode : Int) (a b : List Int) (h : (Hand.stereoF mode a b).2.2 = 0) : Hand.unstereoF mode (Hand.stereoF mode a b).1 (Hand.stereoF mode a b).2.1 = (a, b, 0) := by
  unfold Hand.stereoF at h ⊢
  by_cases hm : 0 ≤ mode ∧ mode ≤ 3
  · simp only [hm, and_self, if_true] at h ⊢
    unfold Hand.twoF at h ⊢
    by_cases hk : a.length = b.length ∧ Hand.okTo 1099511627776 a b a.length
    · rw [if_pos hk]
      obtain ⟨he, hok⟩ := hk
      unfold Hand.unstereoF
      rw [if_pos hm]
      unfold Hand.twoF
      have hrd : ∀ j : Nat, j < a.length → rd (Hand.twoL (Hand.stereo2 mode) a b a.length) (j : Nat) = (Hand.stereo2 mode (rd a (j : Nat)) (rd b (j : Nat))).1 ∧ rd (Hand.twoR (Hand.stereo2 mode) a b a.length) (j : Nat) = (Hand.stereo2 mode (rd a (j : Nat)) (rd b (j : Nat))).2 :=
        fun j hj => ⟨rd_map _ _ _ hj, rd_map _ _ _ hj⟩
      rw [if_pos ⟨by rw [Hand.twoL_length, Hand.twoR_length], fun j hj => by
        rw [Hand.twoL_length] at hj
        rw [(hrd j hj).1, (hrd j hj).2]
        have := back2 mode _ _ (hok j hj).1 (hok j hj).2
        exact ⟨this.1, this.2.1⟩⟩]
      simp only [Hand.twoL_length]
      have e1 : Hand.twoL (Hand.unstereo2 mode) (Hand.twoL (Hand.stereo2 mode) a b a.length) (Hand.twoR (Hand.stereo2 mode) a b a.length) a.length = a := by
        conv => rhs; rw [← map_rd a]
        unfold Hand.twoL
        refine List.map_congr_left (fun j hj => ?_)
        have hj := List.mem_range.1 hj
        have e := hrd j hj
        unfold Hand.twoL at e
        rw [e.1, e.2, (back2 mode _ _ (hok j hj).1 (hok j hj).2).2.2]
      have e2 : Hand.twoR (Hand.unstereo2 mode) (Hand.twoL (Hand.stereo2 mode) a b a.length) (Hand.twoR (Hand.stereo2 mode) a b a.length) a.length = b := by
        conv => rhs; rw [← map_rd b]
        rw [← he]
        unfold Hand.twoR
        refine List.map_congr_left (fun j hj => ?_)
        have hj := List.mem_range.1 hj
        have e := hrd j hj
        unfold Hand.twoR at e
        rw [e.1, e.2, (back2 mode _ _ (hok j hj).1 (hok j hj).2).2.2]
      rw [e1, e2]
    · rw [if_neg hk] at h
      exact absurd h (by decide)
  · simp only [hm, if_false] at h
    exact absurd h (by decide)
theorem stereoF_no (mode : Int) (a b : List Int) (h : ¬ (Hand.stereoF mode a b).2.2 = 0) : Hand.stereoF mode a b = ([], [], 1) := by
  unfold Hand.stereoF at h ⊢
  split at h
  · rename_i hm
    rw [if_pos hm]
    unfold Hand.twoF at h ⊢
    split at h
    · exact absurd rfl h
    · rename_i hk
      rw [if_neg hk]
  · rename_i hm
    rw [if_neg hm]
theorem PredictModes_ev (a0 : Int) (l1 l2 : List Int) (h1 : l1.length * 8 ≤ 140737488351232) (h2 : l2.length * 8 ≤ 140737488351232) : Ev (fun k => lacquerlaw09_PredictModes.f k a0 l1 l2) true := by
  unfold lacquerlaw09_PredictModes.f
  have e1 : predict_Stereo.f a0 l1 l2 = some (Hand.stereoF a0 l1 l2) := if_pos (by omega)
  simp only [e1, Option.bind_some]
  have n1 := stereoF_length a0 l1 l2
  by_cases h0 : (Hand.stereoF a0 l1 l2).2.2 = 0
  · have e2 : predict_Unstereo.f a0 (Hand.stereoF a0 l1 l2).1 (Hand.stereoF a0 l1 l2).2.1 = some (l1, l2, 0) := by
      unfold predict_Unstereo.f
      rw [if_pos (by omega), modes_back a0 l1 l2 h0]
    simp only [h0, if_true, e2, Option.bind_some]
    refine Ev.bind (same_ev _ (by omega)) ?_
    simp only [if_true]
    refine Ev.bind (same_ev _ (by omega)) ?_
    simp only [if_true]
    exact Ev.bind awake_ev (Ev.now _)
  · simp only [stereoF_no a0 l1 l2 h0, List.length_nil, show ¬ ((1 : Int) = 0) by decide, if_false, show wrap64 (((0 : Nat) : Int) + ((0 : Nat) : Int)) = 0 by simp [wrap64], if_true]
    exact Ev.bind awake_ev (Ev.now _)
end Go.Proofs.Ytbbedocehejfgaa.Math
