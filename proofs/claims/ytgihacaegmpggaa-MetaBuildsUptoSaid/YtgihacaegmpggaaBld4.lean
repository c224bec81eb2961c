/- Texts of this claim's proof, laid behind each other by a program of ours, without what the proof does not reach: Printed by a program of ours (pp.sh), partly over contracts proved by hand; Numbers in bytes (layer 02's plain laws, over this layer's printed functions); The plain law of layer 13: which bodies may be (tracks, pictures); The plain law of layer 13: pictures, and which blocks may be; Printed by a program of ours (pp.sh), partly over contracts proved by hand -/
import Derived.Test.YtgihacaegmpggaaBld1
import Derived.Test.YtgihacaegmpggaaBld2
import Derived.Test.YtgihacaegmpggaaBld3
/- Printed by a program of ours (pp.sh), partly over contracts proved by hand. -/
namespace Go.Proofs.Ytgihacaegmpggaa.R
open Go.RowKit Go.Proofs.YtgihacaegmpggaaW.PrintWords Go.Proofs.YtgihacaegmpggaaW.PrintLast Go.Proofs.YtgihacaegmpggaaW.PrintMore
attribute [local go_sem] max2_int min2_int max_two min_two max_three min_three max_four min_four   -- for this text's walks alone
set_option linter.unusedVariables false
set_option linter.unusedSimpArgs false

/-! ### lacquerref13_cuesheet: function 32 -/
mutual
def lacquerref13_cuesheet.j0 : Nat → ByteArray → Bool → Option (Bool)
  | 0, _, _ => none
  | k + 1, x0, x17 => if x17 = true then (some false) else (lacquerref13_cuesheet.l0 k x0 396 0)
def lacquerref13_cuesheet.l0 : Nat → ByteArray → Int → Int → Option (Bool)
  | 0, _, _, _ => none
  | k + 1, x0, x3, x4 => if 395 < (x0.size : Int) then (if x4 < (wrap64 (bt x0 395)) then (if (x0.size : Int) < (wrap64 (x3 + 36)) then (some false) else (if 0 ≤ (wrap64 (x3 + 35)) then (if (wrap64 (x3 + 35)) < (x0.size : Int) then (lacquerref13_cuesheet.l0 k x0 (wrap64 (x3 + (wrap64 (36 + (wrap64 (12 * (wrap64 (bt x0 (wrap64 (x3 + 35)))))))))) (wrap64 (x4 + 1))) else (none)) else (none))) else (some ((x0.size : Int) == x3))) else (none)
end
def lacquerref13_cuesheet.f (k : Nat) (a0 : ByteArray) : Option (Bool) := if (a0.size : Int) < 396 then (lacquerref13_cuesheet.j0 k a0 true) else (if 395 < (a0.size : Int) then (if (bt a0 395) < 1 then (lacquerref13_cuesheet.j0 k a0 true) else (lacquerref13_cuesheet.j0 k a0 (decide ((bt a0 395) > 100)))) else (none))
set_option maxHeartbeats 8000000 in
set_option maxRecDepth 100000 in
theorem lacquerref13_cuesheet.calls (k : Nat) (a0 : ByteArray) (r : Bool) (w : World) (h : lacquerref13_cuesheet.f k a0 = some r) :
    Calls Try.prog 32 #[.string a0] w fun e w' => e = .returned (.bool r) ∧ Drawn0 w w' := by
  have H : (if (a0.size : Int) < 396 then (lacquerref13_cuesheet.j0 k a0 true) else (if 395 < (a0.size : Int) then (if (bt a0 395) < 1 then (lacquerref13_cuesheet.j0 k a0 true) else (lacquerref13_cuesheet.j0 k a0 (decide ((bt a0 395) > 100)))) else (none))) = some r := h
  clear h
  have HC2 := Aside0.mk H
  clear H
  go_enter Try.func32, Try.ntmps32
  go_upto_region 1 with (fail)
  go_cut [17] (fun v17 wc => ∃ (kq : Nat) (x17_1 : Bool), v17 = .bool x17_1 ∧ Aside0 (lacquerref13_cuesheet.j0 kq a0 x17_1 = some r) ∧ Aside0 (kq ≤ k) ∧ Drawn0 w wc)
  case first =>
    have H := HC2.out
    clear HC2
    by_cases c3 : (a0.size : Int) < 396
    · rw [if_pos c3] at H
      have c3b0 : decide ((a0.size : Int) < 396) = true := decide_eq_true c3
      have c3b1 : decide (a0.size < 396) = true := decide_eq_true (by omega)
      clear c3
      (first | rw [c3b0] | (simp only [i64_w, i32_w]; rw [c3b0]) | skip)
      have H' := Aside0.mk H
      clear H
      go_wp2
      go_meet
      case rel => exact ⟨_, (true), (by first | rfl | (simp; done) | (simp [*]; done)), H', ⟨by first | omega | exact Nat.le_refl _⟩, by repeat (first | exact Drawn0.refl _ | apply Drawn0.step)⟩
    · rw [if_neg c3] at H
      have c3b0 : decide ((a0.size : Int) < 396) = false := decide_eq_false c3
      have c3b1 : decide (a0.size < 396) = false := decide_eq_false (by omega)
      clear c3
      (first | rw [c3b0] | (simp only [i64_w, i32_w]; rw [c3b0]) | skip)
      by_cases c4 : 395 < (a0.size : Int)
      · rw [if_pos c4] at H
        have c4b0 : decide (395 < (a0.size : Int)) = true := decide_eq_true c4
        have c4b1 : decide (395 < a0.size) = true := decide_eq_true (by omega)
        clear c4
        by_cases c6 : (bt a0 395) < 1
        · rw [if_pos c6] at H
          have c6b0 : decide ((bt a0 395) < 1) = true := decide_eq_true c6
          clear c6
          have H' := Aside0.mk H
          clear H
          have p5 : 0 ≤ (395 : Int) := (by omega)
          have q5 : 395 < a0.size := (by have : (395 : Int) < (a0.size : Int) := of_decide_eq_true (by first | (with_reducible assumption) | assumption); omega)
          have hx5 : ∀ h : 395 < a0.size, ((a0[395]'h).toNat : Int) = bt a0 395 := bt_at a0 395
          clear p5
          have qi5 : (395 < (a0.size : Int)) = True := eq_true (of_decide_eq_true (by first | (with_reducible assumption) | assumption))
          replace q5 := eq_true q5
          go_wp2
          go_meet
          case rel => exact ⟨_, (true), (by first | rfl | (simp; done) | (simp [*]; done)), H', ⟨by first | omega | exact Nat.le_refl _⟩, by repeat (first | exact Drawn0.refl _ | apply Drawn0.step)⟩
        · rw [if_neg c6] at H
          have c6b0 : decide ((bt a0 395) < 1) = false := decide_eq_false c6
          clear c6
          have H' := Aside0.mk H
          clear H
          have p5 : 0 ≤ (395 : Int) := (by omega)
          have q5 : 395 < a0.size := (by have : (395 : Int) < (a0.size : Int) := of_decide_eq_true (by first | (with_reducible assumption) | assumption); omega)
          have hx5 : ∀ h : 395 < a0.size, ((a0[395]'h).toNat : Int) = bt a0 395 := bt_at a0 395
          clear p5
          have qi5 : (395 < (a0.size : Int)) = True := eq_true (of_decide_eq_true (by first | (with_reducible assumption) | assumption))
          replace q5 := eq_true q5
          have p7 : 0 ≤ (395 : Int) := (by omega)
          have q7 : 395 < a0.size := (by have : (395 : Int) < (a0.size : Int) := of_decide_eq_true (by first | (with_reducible assumption) | assumption); omega)
          have hx7 : ∀ h : 395 < a0.size, ((a0[395]'h).toNat : Int) = bt a0 395 := bt_at a0 395
          clear p7
          have qi7 : (395 < (a0.size : Int)) = True := eq_true (of_decide_eq_true (by first | (with_reducible assumption) | assumption))
          replace q7 := eq_true q7
          go_wp2
          go_meet
          case rel => exact ⟨_, (decide ((bt a0 395) > 100)), (by first | rfl | (simp; done) | (simp [*]; done)), H', ⟨by first | omega | exact Nat.le_refl _⟩, by repeat (first | exact Drawn0.refl _ | apply Drawn0.step)⟩
      · rw [if_neg c4] at H
        exact absurd H (by simp)
  case rest =>
    clear HC2
    try clear p2
    try clear c3
    try clear c3b0
    try clear c3b1
    try clear c4
    try clear c4b0
    try clear c4b1
    try clear p5
    try clear q5
    try clear hx5
    try clear qi5
    try clear c6
    try clear c6b0
    try clear p7
    try clear q7
    try clear hx7
    try clear qi7
    try clear p5
    try clear p7
    try clear q5
    try clear q7
    obtain ⟨kq, x17_1, rfl, HA, HJ1, ⟨mc1, rfl⟩⟩ := hcut
    cases kq with
    | zero => exact absurd HA.out (by simp [lacquerref13_cuesheet.j0])
    | succ kj1 =>
      have H := HA.out
      clear HA
      simp only [lacquerref13_cuesheet.j0] at H
      by_cases c8 : x17_1 = true
      · subst c8
        have H1 : (some false) = some r := by rw [if_pos rfl] at H; exact H
        clear H
        have H := H1
        clear H1
        obtain rfl := Option.some.inj H
        go_wp2
        go_ret
        exact ⟨by first | rfl | (simp; done) | (simp [*]; done), by repeat (first | exact Drawn0.refl _ | apply Drawn0.step)⟩
      · replace c8 := Bool.eq_false_iff.mpr c8
        subst c8
        have H1 : (lacquerref13_cuesheet.l0 kj1 a0 396 0) = some r := by rw [if_neg (show ¬ (false = true) by decide)] at H; exact H
        clear H
        have H := H1
        clear H1
        have H' := Aside0.mk H
        clear H
        go_wp2
        go_loopg [3, 4] kj1 (fun kq v3 v4 w' => ∃ (x3_2 : Int) (x4_2 : Int), v3 = .int .i64 x3_2 ∧ v4 = .int .i64 x4_2 ∧ Aside0 (lacquerref13_cuesheet.l0 kq a0 x3_2 x4_2 = some r) ∧ Aside0 (kq ≤ kj1) ∧ Drawn0 w w')
        case atStart => exact ⟨(396), (0), (by first | rfl | (simp; done) | (simp [*]; done)), (by first | rfl | (simp; done) | (simp [*]; done)), H', ⟨Nat.le_refl _⟩, by repeat (first | exact Drawn0.refl _ | apply Drawn0.step)⟩
        case round =>
          clear H'
          try clear c1
          try clear p2
          try clear c3
          try clear c3b0
          try clear c3b1
          try clear c4
          try clear c4b0
          try clear c4b1
          try clear p5
          try clear q5
          try clear hx5
          try clear qi5
          try clear c6
          try clear c6b0
          try clear p7
          try clear q7
          try clear hx7
          try clear qi7
          try clear c8
          try clear p2
          try clear p5
          try clear p7
          try clear q5
          try clear q7
          obtain ⟨x3_2, x4_2, rfl, rfl, HA, HK2, ⟨m2, rfl⟩⟩ := hrel
          cases gk with
          | zero => exact absurd HA.out (by simp [lacquerref13_cuesheet.l0])
          | succ k2 =>
            have H := HA.out
            clear HA
            simp only [lacquerref13_cuesheet.l0] at H
            by_cases c9 : 395 < (a0.size : Int)
            · rw [if_pos c9] at H
              have c9b0 : decide (395 < (a0.size : Int)) = true := decide_eq_true c9
              have c9b1 : decide (395 < a0.size) = true := decide_eq_true (by omega)
              clear c9
              by_cases c11 : x4_2 < (wrap64 (bt a0 395))
              · rw [if_pos c11] at H
                have c11b0 : decide (x4_2 < (wrap64 (bt a0 395))) = true := decide_eq_true c11
                clear c11
                by_cases c12 : (a0.size : Int) < (wrap64 (x3_2 + 36))
                · rw [if_pos c12] at H
                  have c12b0 : decide ((a0.size : Int) < (wrap64 (x3_2 + 36))) = true := decide_eq_true c12
                  clear c12
                  obtain rfl := Option.some.inj H
                  have p10 : 0 ≤ (395 : Int) := (by omega)
                  have q10 : 395 < a0.size := (by have : (395 : Int) < (a0.size : Int) := of_decide_eq_true (by first | (with_reducible assumption) | assumption); omega)
                  have hx10 : ∀ h : 395 < a0.size, ((a0[395]'h).toNat : Int) = bt a0 395 := bt_at a0 395
                  clear p10
                  have qi10 : (395 < (a0.size : Int)) = True := eq_true (of_decide_eq_true (by first | (with_reducible assumption) | assumption))
                  replace q10 := eq_true q10
                  go_wp2
                  go_ret
                  exact ⟨by first | rfl | (simp; done) | (simp [*]; done), by repeat (first | exact Drawn0.refl _ | apply Drawn0.step)⟩
                · rw [if_neg c12] at H
                  have c12b0 : decide ((a0.size : Int) < (wrap64 (x3_2 + 36))) = false := decide_eq_false c12
                  clear c12
                  obtain ⟨ji13, hji13⟩ : ∃ j_ : Int, (wrap64 (x3_2 + 35)) = j_ := ⟨_, rfl⟩
                  replace H : (if 0 ≤ (ji13) then (if (ji13) < (a0.size : Int) then (lacquerref13_cuesheet.l0 k2 a0 (wrap64 (x3_2 + (wrap64 (36 + (wrap64 (12 * (wrap64 (bt a0 (ji13))))))))) (wrap64 (x4_2 + 1))) else (none)) else (none)) = some r := by first | (rw [hji13] at H; exact H) | (simp only [hji13] at H ⊢; exact H)
                  have hji13w : (IntKind.i64.wrap (x3_2 + 35)) = ji13 := (i64_w _).trans hji13
                  by_cases c14 : 0 ≤ (ji13)
                  · rw [if_pos c14] at H
                    have c14b0 : decide (0 ≤ (ji13)) = true := decide_eq_true c14
                    clear c14
                    by_cases c15 : (ji13) < (a0.size : Int)
                    · rw [if_pos c15] at H
                      have c15b0 : decide ((ji13) < (a0.size : Int)) = true := decide_eq_true c15
                      clear c15
                      have H' := Aside0.mk H
                      clear H
                      have p10 : 0 ≤ (395 : Int) := (by omega)
                      have q10 : 395 < a0.size := (by have : (395 : Int) < (a0.size : Int) := of_decide_eq_true (by first | (with_reducible assumption) | assumption); omega)
                      have hx10 : ∀ h : 395 < a0.size, ((a0[395]'h).toNat : Int) = bt a0 395 := bt_at a0 395
                      clear p10
                      have qi10 : (395 < (a0.size : Int)) = True := eq_true (of_decide_eq_true (by first | (with_reducible assumption) | assumption))
                      replace q10 := eq_true q10
                      have p16 : 0 ≤ ((ji13) : Int) := of_decide_eq_true (by first | (with_reducible assumption) | assumption)
                      have q16 : (ji13) < (a0.size : Int) := of_decide_eq_true (by first | (with_reducible assumption) | assumption)
                      have hx16 := bt_at a0 (ji13)
                      replace p16 := eq_true p16
                      replace q16 := eq_true q16
                      go_wp2
                      go_roundg k2
                      case measure => have := HJ1.out; have := HK2.out; omega
                      case rel => exact ⟨(wrap64 (x3_2 + (wrap64 (36 + (wrap64 (12 * (wrap64 (bt a0 (ji13))))))))), (wrap64 (x4_2 + 1)), (by first | rfl | (simp; done) | (simp only [← hji13] <;> (first | rfl | simp)) | (simp [*]; done)), (by first | rfl | (simp; done) | (simp [*]; done)), H', ⟨by have := HJ1.out; have := HK2.out; omega⟩, by repeat (first | exact Drawn0.refl _ | apply Drawn0.step)⟩
                    · rw [if_neg c15] at H
                      exact absurd H (by simp)
                  · rw [if_neg c14] at H
                    exact absurd H (by simp)
              · rw [if_neg c11] at H
                have c11b0 : decide (x4_2 < (wrap64 (bt a0 395))) = false := decide_eq_false c11
                clear c11
                obtain rfl := Option.some.inj H
                have p10 : 0 ≤ (395 : Int) := (by omega)
                have q10 : 395 < a0.size := (by have : (395 : Int) < (a0.size : Int) := of_decide_eq_true (by first | (with_reducible assumption) | assumption); omega)
                have hx10 : ∀ h : 395 < a0.size, ((a0[395]'h).toNat : Int) = bt a0 395 := bt_at a0 395
                clear p10
                have qi10 : (395 < (a0.size : Int)) = True := eq_true (of_decide_eq_true (by first | (with_reducible assumption) | assumption))
                replace q10 := eq_true q10
                go_wp2
                go_ret
                exact ⟨by first | rfl | (simp; done) | (simp [*]; done), by repeat (first | exact Drawn0.refl _ | apply Drawn0.step)⟩
            · rw [if_neg c9] at H
              exact absurd H (by simp)

/-! ### lacquerref02_FromBe: function 35 -/
mutual
def lacquerref02_FromBe.j0 : Nat → ByteArray → Bool → Option (Int)
  | 0, _, _ => none
  | k + 1, x0, x17 => if x17 = true then (some (-1)) else (lacquerref02_FromBe.l0 k x0 0 0)
def lacquerref02_FromBe.l0 : Nat → ByteArray → Int → Int → Option (Int)
  | 0, _, _, _ => none
  | k + 1, x0, x3, x4 => if x4 < (x0.size : Int) then (if 0 ≤ x4 then (lacquerref02_FromBe.l0 k x0 (wrap64 ((wrap64 (x3 * 256)) + (wrap64 (bt x0 x4)))) (wrap64 (x4 + 1))) else (none)) else (some x3)
end
def lacquerref02_FromBe.f (k : Nat) (a0 : ByteArray) : Option (Int) := if (a0.size : Int) > 8 then (lacquerref02_FromBe.j0 k a0 true) else (if (a0.size : Int) = 8 then (if 0 < (a0.size : Int) then (lacquerref02_FromBe.j0 k a0 (decide ((bt a0 0) > 127))) else (none)) else (lacquerref02_FromBe.j0 k a0 false))
theorem lacquerref02_FromBe.mono_l : ∀ k, (∀ y0 y1, LeO (lacquerref02_FromBe.j0 k y0 y1) (lacquerref02_FromBe.j0 (k + 1) y0 y1)) ∧ (∀ y0 y1 y2, LeO (lacquerref02_FromBe.l0 k y0 y1 y2) (lacquerref02_FromBe.l0 (k + 1) y0 y1 y2))
  | 0 => ⟨fun _ _ r h => by simp [lacquerref02_FromBe.j0] at h, fun _ _ _ r h => by simp [lacquerref02_FromBe.l0] at h⟩
  | k + 1 => by
    obtain ⟨ih0, ih1⟩ := lacquerref02_FromBe.mono_l k
    refine ⟨?_, ?_⟩
    · intro y0 y1
      unfold lacquerref02_FromBe.j0
      repeat' first
      | (with_reducible exact ih0 _ _)
      | (with_reducible exact ih1 _ _ _)
      | (with_reducible exact LeO.refl _)
      | (with_reducible exact LeO.none _)
      | (with_reducible refine LeO.ite ?_ ?_)
      | (with_reducible refine LeO.bind ?_ (fun _ => ?_))
      | exact ih0 _ _
      | exact ih1 _ _ _
      | exact LeO.none _
      | refine LeO.ite ?_ ?_
      | refine LeO.bind ?_ (fun _ => ?_)
    · intro y0 y1 y2
      unfold lacquerref02_FromBe.l0
      repeat' first
      | (with_reducible exact ih0 _ _)
      | (with_reducible exact ih1 _ _ _)
      | (with_reducible exact LeO.refl _)
      | (with_reducible exact LeO.none _)
      | (with_reducible refine LeO.ite ?_ ?_)
      | (with_reducible refine LeO.bind ?_ (fun _ => ?_))
      | exact ih0 _ _
      | exact ih1 _ _ _
      | exact LeO.none _
      | refine LeO.ite ?_ ?_
      | refine LeO.bind ?_ (fun _ => ?_)
theorem lacquerref02_FromBe.mono : ∀ a0 k, LeO (lacquerref02_FromBe.f k a0) (lacquerref02_FromBe.f (k + 1) a0) := by
  intro a0 k
  obtain ⟨ih0, ih1⟩ := lacquerref02_FromBe.mono_l k
  unfold lacquerref02_FromBe.f
  repeat' first
      | (with_reducible exact ih0 _ _)
      | (with_reducible exact ih1 _ _ _)
      | (with_reducible exact LeO.refl _)
      | (with_reducible exact LeO.none _)
      | (with_reducible refine LeO.ite ?_ ?_)
      | (with_reducible refine LeO.bind ?_ (fun _ => ?_))
      | exact ih0 _ _
      | exact ih1 _ _ _
      | exact LeO.none _
      | refine LeO.ite ?_ ?_
      | refine LeO.bind ?_ (fun _ => ?_)
set_option maxHeartbeats 8000000 in
set_option maxRecDepth 100000 in
theorem lacquerref02_FromBe.calls (k : Nat) (a0 : ByteArray) (r : Int) (w : World) (h : lacquerref02_FromBe.f k a0 = some r) :
    Calls Try.prog 35 #[.string a0] w fun e w' => e = .returned (.int .i64 r) ∧ Drawn0 w w' := by
  have H : (if (a0.size : Int) > 8 then (lacquerref02_FromBe.j0 k a0 true) else (if (a0.size : Int) = 8 then (if 0 < (a0.size : Int) then (lacquerref02_FromBe.j0 k a0 (decide ((bt a0 0) > 127))) else (none)) else (lacquerref02_FromBe.j0 k a0 false))) = some r := h
  clear h
  have HC2 := Aside0.mk H
  clear H
  go_enter Try.func35, Try.ntmps35
  go_upto_region 1 with (fail)
  go_cut [17] (fun v17 wc => ∃ (kq : Nat) (x17_1 : Bool), v17 = .bool x17_1 ∧ Aside0 (lacquerref02_FromBe.j0 kq a0 x17_1 = some r) ∧ Aside0 (kq ≤ k) ∧ Drawn0 w wc)
  case first =>
    have H := HC2.out
    clear HC2
    by_cases c3 : (a0.size : Int) > 8
    · rw [if_pos c3] at H
      have c3b0 : decide (8 < (a0.size : Int)) = true := decide_eq_true c3
      have c3b1 : decide (8 < a0.size) = true := decide_eq_true (by omega)
      clear c3
      (first | rw [c3b0] | (simp only [i64_w, i32_w]; rw [c3b0]) | skip)
      have H' := Aside0.mk H
      clear H
      go_wp2
      go_meet
      case rel => exact ⟨_, (true), (by first | rfl | (simp; done) | (simp [*]; done)), H', ⟨by first | omega | exact Nat.le_refl _⟩, by repeat (first | exact Drawn0.refl _ | apply Drawn0.step)⟩
    · rw [if_neg c3] at H
      have c3b0 : decide (8 < (a0.size : Int)) = false := decide_eq_false c3
      have c3b1 : decide (8 < a0.size) = false := decide_eq_false (by omega)
      clear c3
      (first | rw [c3b0] | (simp only [i64_w, i32_w]; rw [c3b0]) | skip)
      by_cases c4 : (a0.size : Int) = 8
      · rw [if_pos c4] at H
        have c4b0 : ((a0.size : Int) == 8) = true := beq_iff_eq.mpr c4
        have c4b1 : ((a0.size : Int) != 8) = false := bne_eq_false_iff_eq.mpr c4
        clear c4
        by_cases c5 : 0 < (a0.size : Int)
        · rw [if_pos c5] at H
          have c5b0 : decide (0 < (a0.size : Int)) = true := decide_eq_true c5
          have c5b1 : decide (0 < a0.size) = true := decide_eq_true (by omega)
          clear c5
          have H' := Aside0.mk H
          clear H
          have p6 : 0 ≤ (0 : Int) := (by omega)
          have q6 : 0 < a0.size := (by have : (0 : Int) < (a0.size : Int) := of_decide_eq_true (by first | (with_reducible assumption) | assumption); omega)
          have hx6 : ∀ h : 0 < a0.size, ((a0[0]'h).toNat : Int) = bt a0 0 := bt_at a0 0
          clear p6
          have qi6 : (0 < (a0.size : Int)) = True := eq_true (of_decide_eq_true (by first | (with_reducible assumption) | assumption))
          replace q6 := eq_true q6
          go_wp2
          go_meet
          case rel => exact ⟨_, (decide ((bt a0 0) > 127)), (by first | rfl | (simp; done) | (simp [*]; done)), H', ⟨by first | omega | exact Nat.le_refl _⟩, by repeat (first | exact Drawn0.refl _ | apply Drawn0.step)⟩
        · rw [if_neg c5] at H
          exact absurd H (by simp)
      · rw [if_neg c4] at H
        have c4b0 : ((a0.size : Int) == 8) = false := beq_eq_false_iff_ne.mpr c4
        have c4b1 : ((a0.size : Int) != 8) = true := bne_iff_ne.mpr c4
        have H' := Aside0.mk H
        clear H
        go_wp2
        go_meet
        case rel => exact ⟨_, (false), (by first | rfl | (simp; done) | (simp [*]; done)), H', ⟨by first | omega | exact Nat.le_refl _⟩, by repeat (first | exact Drawn0.refl _ | apply Drawn0.step)⟩
  case rest =>
    clear HC2
    try clear p2
    try clear c3
    try clear c3b0
    try clear c3b1
    try clear c4
    try clear c4b0
    try clear c4b1
    try clear c5
    try clear c5b0
    try clear c5b1
    try clear p6
    try clear q6
    try clear hx6
    try clear qi6
    try clear p6
    try clear q6
    obtain ⟨kq, x17_1, rfl, HA, HJ1, ⟨mc1, rfl⟩⟩ := hcut
    cases kq with
    | zero => exact absurd HA.out (by simp [lacquerref02_FromBe.j0])
    | succ kj1 =>
      have H := HA.out
      clear HA
      simp only [lacquerref02_FromBe.j0] at H
      by_cases c7 : x17_1 = true
      · subst c7
        have H1 : (some (-1)) = some r := by rw [if_pos rfl] at H; exact H
        clear H
        have H := H1
        clear H1
        obtain rfl := Option.some.inj H
        go_wp2
        go_ret
        exact ⟨by first | rfl | (simp; done) | (simp [*]; done), by repeat (first | exact Drawn0.refl _ | apply Drawn0.step)⟩
      · replace c7 := Bool.eq_false_iff.mpr c7
        subst c7
        have H1 : (lacquerref02_FromBe.l0 kj1 a0 0 0) = some r := by rw [if_neg (show ¬ (false = true) by decide)] at H; exact H
        clear H
        have H := H1
        clear H1
        have H' := Aside0.mk H
        clear H
        go_wp2
        go_loopg [3, 4] kj1 (fun kq v3 v4 w' => ∃ (x3_2 : Int) (x4_2 : Int), v3 = .int .i64 x3_2 ∧ v4 = .int .i64 x4_2 ∧ Aside0 (lacquerref02_FromBe.l0 kq a0 x3_2 x4_2 = some r) ∧ Aside0 (kq ≤ kj1) ∧ Drawn0 w w')
        case atStart => exact ⟨(0), (0), (by first | rfl | (simp; done) | (simp [*]; done)), (by first | rfl | (simp; done) | (simp [*]; done)), H', ⟨Nat.le_refl _⟩, by repeat (first | exact Drawn0.refl _ | apply Drawn0.step)⟩
        case round =>
          clear H'
          try clear c1
          try clear p2
          try clear c3
          try clear c3b0
          try clear c3b1
          try clear c4
          try clear c4b0
          try clear c4b1
          try clear c5
          try clear c5b0
          try clear c5b1
          try clear p6
          try clear q6
          try clear hx6
          try clear qi6
          try clear c7
          try clear p2
          try clear p6
          try clear q6
          obtain ⟨x3_2, x4_2, rfl, rfl, HA, HK2, ⟨m2, rfl⟩⟩ := hrel
          cases gk with
          | zero => exact absurd HA.out (by simp [lacquerref02_FromBe.l0])
          | succ k2 =>
            have H := HA.out
            clear HA
            simp only [lacquerref02_FromBe.l0] at H
            by_cases c8 : x4_2 < (a0.size : Int)
            · rw [if_pos c8] at H
              have c8b0 : decide (x4_2 < (a0.size : Int)) = true := decide_eq_true c8
              clear c8
              by_cases c9 : 0 ≤ x4_2
              · rw [if_pos c9] at H
                have c9b0 : decide (0 ≤ x4_2) = true := decide_eq_true c9
                clear c9
                have H' := Aside0.mk H
                clear H
                have p10 : 0 ≤ (x4_2 : Int) := of_decide_eq_true (by first | (with_reducible assumption) | assumption)
                have q10 : x4_2 < (a0.size : Int) := of_decide_eq_true (by first | (with_reducible assumption) | assumption)
                have hx10 := bt_at a0 x4_2
                replace p10 := eq_true p10
                replace q10 := eq_true q10
                go_wp2
                go_roundg k2
                case measure => have := HJ1.out; have := HK2.out; omega
                case rel => exact ⟨(wrap64 ((wrap64 (x3_2 * 256)) + (wrap64 (bt a0 x4_2)))), (wrap64 (x4_2 + 1)), (by first | rfl | (simp; done) | (simp [*]; done)), (by first | rfl | (simp; done) | (simp [*]; done)), H', ⟨by have := HJ1.out; have := HK2.out; omega⟩, by repeat (first | exact Drawn0.refl _ | apply Drawn0.step)⟩
              · rw [if_neg c9] at H
                exact absurd H (by simp)
            · rw [if_neg c8] at H
              have c8b0 : decide (x4_2 < (a0.size : Int)) = false := decide_eq_false c8
              clear c8
              obtain rfl := Option.some.inj H
              go_wp2
              go_ret
              exact ⟨by first | rfl | (simp; done) | (simp [*]; done), by repeat (first | exact Drawn0.refl _ | apply Drawn0.step)⟩

/-! ### lacquerref13_picture: function 33 -/
mutual
def lacquerref13_picture.l0 : Nat → ByteArray → Int → Int → Option (Bool)
  | 0, _, _, _ => none
  | k + 1, x0, x3, x4 => if x4 < 3 then (if x4 = 2 then (lacquerref13_picture.j1 k x0 (wrap64 (x3 + 16)) x4) else (lacquerref13_picture.j1 k x0 x3 x4)) else (some ((x0.size : Int) == x3))
def lacquerref13_picture.j1 : Nat → ByteArray → Int → Int → Option (Bool)
  | 0, _, _, _ => none
  | k + 1, x0, x3, x4 => if (x0.size : Int) < (wrap64 (x3 + 4)) then (some false) else (if 0 ≤ x3 then (if x3 ≤ (wrap64 (x3 + 4)) then (if (wrap64 (x3 + 4)) ≤ (x0.size : Int) then ((lacquerref02_FromBe.f k (x0.extract (x3 : Int).toNat ((wrap64 (x3 + 4)) : Int).toNat)).bind fun t269 => (if t269 > (wrap64 ((x0.size : Int) - (wrap64 (x3 + 4)))) then (some false) else (lacquerref13_picture.l0 k x0 (wrap64 ((wrap64 (x3 + 4)) + t269)) (wrap64 (x4 + 1))))) else (none)) else (none)) else (none))
end
def lacquerref13_picture.f (k : Nat) (a0 : ByteArray) : Option (Bool) := lacquerref13_picture.l0 k a0 4 0
set_option maxHeartbeats 8000000 in
set_option maxRecDepth 100000 in
theorem lacquerref13_picture.calls (k : Nat) (a0 : ByteArray) (r : Bool) (w : World) (h : lacquerref13_picture.f k a0 = some r) :
    Calls Try.prog 33 #[.string a0] w fun e w' => e = .returned (.bool r) ∧ Drawn0 w w' := by
  have H : (lacquerref13_picture.l0 k a0 4 0) = some r := h
  clear h
  have H' := Aside0.mk H
  clear H
  go_enter Try.func33, Try.ntmps33
  go_wp2
  go_loopg [3, 4] k (fun kq v3 v4 w' => ∃ (x3_1 : Int) (x4_1 : Int), v3 = .int .i64 x3_1 ∧ v4 = .int .i64 x4_1 ∧ Aside0 (lacquerref13_picture.l0 kq a0 x3_1 x4_1 = some r) ∧ Aside0 (kq ≤ k) ∧ Drawn0 w w')
  case atStart => exact ⟨(4), (0), (by first | rfl | (simp; done) | (simp [*]; done)), (by first | rfl | (simp; done) | (simp [*]; done)), H', ⟨Nat.le_refl _⟩, by repeat (first | exact Drawn0.refl _ | apply Drawn0.step)⟩
  case round =>
    clear H'
    obtain ⟨x3_1, x4_1, rfl, rfl, HA, HK1, ⟨m1, rfl⟩⟩ := hrel
    cases gk with
    | zero => exact absurd HA.out (by simp [lacquerref13_picture.l0])
    | succ k1 =>
      have H := HA.out
      clear HA
      simp only [lacquerref13_picture.l0] at H
      by_cases c2 : x4_1 < 3
      · rw [if_pos c2] at H
        have c2b0 : decide (x4_1 < 3) = true := decide_eq_true c2
        clear c2
        have HC3 := Aside0.mk H
        clear H
        go_upto_if 11 with (fail)
        go_cut [3] (fun v3 wc => ∃ (kq : Nat) (x3_2 : Int), v3 = .int .i64 x3_2 ∧ Aside0 (lacquerref13_picture.j1 kq a0 x3_2 x4_1 = some r) ∧ Aside0 (kq ≤ k1) ∧ Drawn0 w wc)
        case first =>
          have H := HC3.out
          clear HC3
          by_cases c4 : x4_1 = 2
          · rw [if_pos c4] at H
            have c4b0 : (x4_1 == 2) = true := beq_iff_eq.mpr c4
            have c4b1 : (x4_1 != 2) = false := bne_eq_false_iff_eq.mpr c4
            clear c4
            (first | rw [c4b0] | (simp only [i64_w, i32_w]; rw [c4b0]) | skip)
            have H' := Aside0.mk H
            clear H
            go_wp2
            go_meet
            case rel => exact ⟨_, (wrap64 (x3_1 + 16)), (by first | rfl | (simp; done) | (simp [*]; done)), H', ⟨by have := HK1.out; first | omega | exact Nat.le_refl _⟩, by repeat (first | exact Drawn0.refl _ | apply Drawn0.step)⟩
          · rw [if_neg c4] at H
            have c4b0 : (x4_1 == 2) = false := beq_eq_false_iff_ne.mpr c4
            have c4b1 : (x4_1 != 2) = true := bne_iff_ne.mpr c4
            (first | rw [c4b0] | (simp only [i64_w, i32_w]; rw [c4b0]) | skip)
            have H' := Aside0.mk H
            clear H
            go_wp2
            go_meet
            case rel => exact ⟨_, (x3_1), (by first | rfl | (simp; done) | (simp [*]; done)), H', ⟨by have := HK1.out; first | omega | exact Nat.le_refl _⟩, by repeat (first | exact Drawn0.refl _ | apply Drawn0.step)⟩
        case rest =>
          clear HC3
          try clear c2
          try clear c2b0
          try clear p2
          try clear c3
          try clear c4
          try clear c4b0
          try clear c4b1
          obtain ⟨kq, x3_2, rfl, HA, HJ2, ⟨mc2, rfl⟩⟩ := hcut
          cases kq with
          | zero => exact absurd HA.out (by simp [lacquerref13_picture.j1])
          | succ kj2 =>
            have H := HA.out
            clear HA
            simp only [lacquerref13_picture.j1] at H
            by_cases c5 : (a0.size : Int) < (wrap64 (x3_2 + 4))
            · rw [if_pos c5] at H
              have c5b0 : decide ((a0.size : Int) < (wrap64 (x3_2 + 4))) = true := decide_eq_true c5
              clear c5
              obtain rfl := Option.some.inj H
              go_wp2
              go_ret
              exact ⟨by first | rfl | (simp; done) | (simp [*]; done), by repeat (first | exact Drawn0.refl _ | apply Drawn0.step)⟩
            · rw [if_neg c5] at H
              have c5b0 : decide ((a0.size : Int) < (wrap64 (x3_2 + 4))) = false := decide_eq_false c5
              clear c5
              by_cases c6 : 0 ≤ x3_2
              · rw [if_pos c6] at H
                have c6b0 := eq_true c6
                have c6b1 : decide (0 ≤ x3_2) = true := decide_eq_true c6
                clear c6
                by_cases c7 : x3_2 ≤ (wrap64 (x3_2 + 4))
                · rw [if_pos c7] at H
                  have c7b0 := eq_true c7
                  have c7b1 : decide (x3_2 ≤ (wrap64 (x3_2 + 4))) = true := decide_eq_true c7
                  by_cases c8 : (wrap64 (x3_2 + 4)) ≤ (a0.size : Int)
                  · rw [if_pos c8] at H
                    have c8b0 := eq_true c8
                    have c8b1 : decide ((wrap64 (x3_2 + 4)) ≤ (a0.size : Int)) = true := decide_eq_true c8
                    replace H := Option.bind_eq_some_iff.mp H
                    obtain ⟨t269, A90, H⟩ := H
                    replace H : (if t269 > (wrap64 ((a0.size : Int) - (wrap64 (x3_2 + 4)))) then (some false) else (lacquerref13_picture.l0 kj2 a0 (wrap64 ((wrap64 (x3_2 + 4)) + t269)) (wrap64 (x4_1 + 1)))) = some r := H
                    have A9 := Aside0.mk A90
                    clear A90
                    by_cases c10 : t269 > (wrap64 ((a0.size : Int) - (wrap64 (x3_2 + 4))))
                    · rw [if_pos c10] at H
                      have c10b0 : decide ((wrap64 ((a0.size : Int) - (wrap64 (x3_2 + 4)))) < t269) = true := decide_eq_true c10
                      clear c10
                      obtain rfl := Option.some.inj H
                      go_wp2_with (first | ((with_reducible refine gate_callee (f := 35) rfl ?_); refine goesL_ (some 24) rfl rfl Try.func35 (by kernel_rfl) rfl #[.string (a0.extract (x3_2 : Int).toNat ((wrap64 (x3_2 + 4)) : Int).toNat)] rfl (by (try simp only [List.map_toArray, List.map_cons, List.map_nil]); first | done | rfl | (simp only [List.length_drop, List.length_take]; rfl)) ?_; (with_reducible refine (lacquerref02_FromBe.calls kj2 (a0.extract (x3_2 : Int).toNat ((wrap64 (x3_2 + 4)) : Int).toNat) t269 _ A9.out).mono ?_); rintro e w' ⟨rfl, ⟨nd, rfl⟩⟩; refine ⟨_, rfl, ?_⟩))
                      go_ret
                      exact ⟨by first | rfl | (simp; done) | (simp [*]; done), by repeat (first | exact Drawn0.refl _ | apply Drawn0.step)⟩
                    · rw [if_neg c10] at H
                      have c10b0 : decide ((wrap64 ((a0.size : Int) - (wrap64 (x3_2 + 4)))) < t269) = false := decide_eq_false c10
                      clear c10
                      have H' := Aside0.mk H
                      clear H
                      go_wp2_with (first | ((with_reducible refine gate_callee (f := 35) rfl ?_); refine goesL_ (some 24) rfl rfl Try.func35 (by kernel_rfl) rfl #[.string (a0.extract (x3_2 : Int).toNat ((wrap64 (x3_2 + 4)) : Int).toNat)] rfl (by (try simp only [List.map_toArray, List.map_cons, List.map_nil]); first | done | rfl | (simp only [List.length_drop, List.length_take]; rfl)) ?_; (with_reducible refine (lacquerref02_FromBe.calls kj2 (a0.extract (x3_2 : Int).toNat ((wrap64 (x3_2 + 4)) : Int).toNat) t269 _ A9.out).mono ?_); rintro e w' ⟨rfl, ⟨nd, rfl⟩⟩; refine ⟨_, rfl, ?_⟩))
                      go_roundg kj2
                      case measure => have := HK1.out; have := HJ2.out; omega
                      case rel => exact ⟨(wrap64 ((wrap64 (x3_2 + 4)) + t269)), (wrap64 (x4_1 + 1)), (by first | rfl | (simp; done) | (simp [*]; done)), (by first | rfl | (simp; done) | (simp [*]; done)), H', ⟨by have := HK1.out; have := HJ2.out; omega⟩, by repeat (first | exact Drawn0.refl _ | apply Drawn0.step)⟩
                  · rw [if_neg c8] at H
                    exact absurd H (by simp)
                · rw [if_neg c7] at H
                  exact absurd H (by simp)
              · rw [if_neg c6] at H
                exact absurd H (by simp)
      · rw [if_neg c2] at H
        have c2b0 : decide (x4_1 < 3) = false := decide_eq_false c2
        clear c2
        obtain rfl := Option.some.inj H
        go_wp2
        go_ret
        exact ⟨by first | rfl | (simp; done) | (simp [*]; done), by repeat (first | exact Drawn0.refl _ | apply Drawn0.step)⟩

end Go.Proofs.Ytgihacaegmpggaa.R

/- Numbers in bytes (layer 02's plain laws, over this layer's printed functions). -/
namespace Go.Proofs.Ytgihacaegmpggaa.Be
open Go.RowKit Go.Proofs.Ytgihacaegmpggaa Go.Proofs.Ytgihacaegmpggaa.R Go.Proofs.YtgihacaegmpggaaW.PrintWords Go.Proofs.YtgihacaegmpggaaW.PrintLast Go.Proofs.YtgihacaegmpggaaW.PrintMore
set_option linter.unusedVariables false
set_option linter.unusedSimpArgs false

/-- A number's bytes, the lowest first. -/
def leL : Nat → Int → List Int
  | 0, _ => []
  | w + 1, n => n % 256 :: leL w (n / 256)
theorem leL_length (w : Nat) : ∀ n, (leL w n).length = w := by
  induction w with
  | zero => intro n; rfl
  | succ w ih => intro n; simp [leL, ih]
theorem rev_strOfNums (xs : List Int) : Turn.rev (strOfNums xs) = strOfNums xs.reverse := by
  simp [Turn.rev, strOfNums]
def Valid (n w : Int) : Prop := 1 ≤ w ∧ w ≤ 8 ∧ 0 ≤ n ∧ n < 2 ^ (8 * w.toNat)
theorem d2 (n : Int) : n / 256 / 256 = n / 65536 := by omega
theorem d3 (n : Int) : n / 65536 / 256 = n / 16777216 := by omega
theorem d4 (n : Int) : n / 16777216 / 256 = n / 4294967296 := by omega
theorem d5 (n : Int) : n / 4294967296 / 256 = n / 1099511627776 := by omega
theorem d6 (n : Int) : n / 1099511627776 / 256 = n / 281474976710656 := by omega
theorem d7 (n : Int) : n / 281474976710656 / 256 = n / 72057594037927936 := by omega
theorem Le_ok (n w : Int) (h63 : n < 9223372036854775808) (h : Valid n w) : bytes_Le.f 12 n w = some (strOfNums (leL w.toNat n), 0) := by
  obtain ⟨h1, h2, h3, h4⟩ := h
  have hw : w = 1 ∨ w = 2 ∨ w = 3 ∨ w = 4 ∨ w = 5 ∨ w = 6 ∨ w = 7 ∨ w = 8 := by omega
  rcases hw with rfl | rfl | rfl | rfl | rfl | rfl | rfl | rfl <;>
    simp at h4 <;>
    simp [bytes_Le.f, bytes_Le.j0, bytes_Le.l0, shl, shr, wrap64, IntKind.wrap, IntKind.bits, IntKind.signed, leL, h3, h4, show ¬ n < 0 by omega, d2, d3, d4, d5, d6, d7] <;> (try omega)
theorem Le_no (n w : Int) (h63 : n < 9223372036854775808) (h : ¬ Valid n w) : bytes_Le.f 12 n w = some (⟨#[]⟩, 11) := by
  by_cases h1 : w < 1
  · simp [bytes_Le.f, bytes_Le.j0, h1]
  by_cases h2 : 8 < w
  · simp [bytes_Le.f, bytes_Le.j0, h1, h2]
  by_cases h3 : n < 0
  · simp [bytes_Le.f, bytes_Le.j0, h1, h2, h3]
  have h4 : ¬ n < 2 ^ (8 * w.toNat) := fun h4 => h ⟨by omega, by omega, by omega, h4⟩
  have hw : w = 1 ∨ w = 2 ∨ w = 3 ∨ w = 4 ∨ w = 5 ∨ w = 6 ∨ w = 7 ∨ w = 8 := by omega
  rcases hw with rfl | rfl | rfl | rfl | rfl | rfl | rfl | rfl <;>
    simp at h4 <;>
    simp [bytes_Le.f, bytes_Le.j0, shl, shr, wrap64, IntKind.wrap, IntKind.bits, IntKind.signed, h3, h4] <;> (try omega)
theorem turn_ok (s : ByteArray) (hs : s.size ≤ 140737488355328) : bytes_turn.f s = some (Turn.rev s) := by
  unfold bytes_turn.f
  rw [if_pos (by omega)]
/-- What Le gives. -/
def leR (n w : Int) : ByteArray × Int := if 1 ≤ w ∧ w ≤ 8 ∧ 0 ≤ n ∧ n < 2 ^ (8 * w.toNat) then (strOfNums (leL w.toNat n), 0) else (⟨#[]⟩, 11)
def beR (n w : Int) : ByteArray × Int := if 1 ≤ w ∧ w ≤ 8 ∧ 0 ≤ n ∧ n < 2 ^ (8 * w.toNat) then (strOfNums (leL w.toNat n).reverse, 0) else (⟨#[]⟩, 11)
theorem leR_size (n w : Int) : (leR n w).1.size ≤ 8 := by
  unfold leR
  split
  · rename_i h
    rw [strOfNums_size, leL_length]
    omega
  · simp [ByteArray.size]
theorem beR_rev (n w : Int) : Turn.rev (leR n w).1 = (beR n w).1 ∧ (leR n w).2 = (beR n w).2 := by
  unfold leR beR
  split
  · exact ⟨rev_strOfNums _, rfl⟩
  · exact ⟨by simp [Turn.rev], rfl⟩
theorem Le_ev (n w : Int) (h63 : n < 9223372036854775808) : Ev (fun k => bytes_Le.f k n w) (leR n w) := by
  refine Ev.of (bytes_Le.mono n w) (k := 12) ?_
  unfold leR
  split
  · rename_i h; exact Le_ok n w h63 h
  · rename_i h; exact Le_no n w h63 h
theorem Be_ev (n w : Int) (h63 : n < 9223372036854775808) : Ev (fun k => bytes_Be.f k n w) (beR n w) := by
  refine Ev.bind (Le_ev n w h63) ?_
  rw [turn_ok _ (by have := leR_size n w; omega), Option.bind_some, (beR_rev n w).1, (beR_rev n w).2]
  exact Ev.now _
theorem bytesOf_strOfNums (a : List Int) (h : ∀ x ∈ a, 0 ≤ x ∧ x < 256) : bytesOf (strOfNums a) = a := by
  unfold bytesOf
  rw [strOfNums_data, List.map_map]
  conv => rhs; rw [← List.map_id a]
  refine List.map_congr_left fun x hx => ?_
  have := h x hx
  simp [UInt8.toNat_ofNat']
  omega
/-- The number of the first bytes of a text, the highest first. -/
def fromL (s : ByteArray) : Nat → Int
  | 0 => 0
  | i + 1 => fromL s i * 256 + bt s (i : Nat)
def fbR (s : ByteArray) : Int := if 8 < s.size then -1 else if 9223372036854775808 ≤ fromL s s.size then -1 else fromL s s.size
theorem fromL_range (s : ByteArray) : ∀ i, 0 ≤ fromL s i ∧ fromL s i < 256 ^ i
  | 0 => by simp [fromL]
  | i + 1 => by
    have := fromL_range s i
    have hb := bt_range s (i : Nat)
    simp only [fromL, Int.pow_succ]
    omega
theorem fromL_lt (s : ByteArray) (i : Nat) (h : i < 8) : 0 ≤ fromL s i ∧ fromL s i < 72057594037927936 := by
  have h1 := fromL_range s i
  have h2 : (256 : Int) ^ i ≤ 256 ^ 7 := by
    have : (256 : Nat) ^ i ≤ 256 ^ 7 := Nat.pow_le_pow_right (by omega) (by omega)
    have := Int.ofNat_le.2 this
    simpa using this
  have h3 : (256 : Int) ^ 7 = 72057594037927936 := by decide
  omega
theorem fromL_le (s : ByteArray) (i : Nat) (h : i ≤ 8) : 0 ≤ fromL s i ∧ fromL s i < 18446744073709551616 := by
  rcases i with _ | i
  · simp [fromL]
  · have := fromL_lt s i (by omega)
    have hb := bt_range s (i : Nat)
    simp only [fromL]
    omega
theorem or_u64 (x y : Int) (h0 : 0 ≤ x) (h1 : x < 72057594037927936) (h2 : 0 ≤ y) (h3 : y ≤ 255) : Go.bits .or .u64 (IntKind.u64.wrap (x * 256)) (IntKind.u64.wrap y) = x * 256 + y := by
  have e1 : IntKind.u64.wrap (x * 256) = x * 256 := by simp only [IntKind.wrap, IntKind.bits, IntKind.signed]; simp; omega
  have e2 : IntKind.u64.wrap y = y := by simp only [IntKind.wrap, IntKind.bits, IntKind.signed]; simp; omega
  rw [e1, e2]
  exact bits_join .u64 64 (by decide) (fun n h0 h1 => by simp only [IntKind.wrap, IntKind.bits, IntKind.signed]; simp; omega) 8 _ _ (by omega) (by simp) (by simp; omega) h2 (by simp; omega) (by simp; omega)
theorem FromBe_l0 (s : ByteArray) (hs : s.size ≤ 8) (d : Nat) : ∀ (k i : Nat), i ≤ s.size → s.size - i = d → d < k →
    bytes_FromBe.l0 k s (fromL s i) (s.size : Int) (i : Int) = some (fbR s) := by
  induction d with
  | zero =>
    intro k i h1 h2 h3
    obtain ⟨k, rfl⟩ : ∃ m, k = m + 1 := ⟨k - 1, by omega⟩
    obtain rfl : i = s.size := by omega
    simp only [bytes_FromBe.l0]
    rw [if_neg (by omega)]
    have := fromL_le s s.size hs
    unfold fbR
    rw [if_neg (show ¬ 8 < s.size by omega)]
    by_cases c : 9223372036854775808 ≤ fromL s s.size
    · rw [if_pos c, if_pos c]
    · rw [if_neg c, if_neg c]
      congr 1
      unfold wrap64
      omega
  | succ d ih =>
    intro k i h1 h2 h3
    obtain ⟨k, rfl⟩ : ∃ m, k = m + 1 := ⟨k - 1, by omega⟩
    have hl := fromL_lt s i (by omega)
    have hb := bt_range s (i : Nat)
    simp only [bytes_FromBe.l0]
    rw [if_pos (by omega), if_pos (by omega), if_pos (by omega), or_u64 _ _ hl.1 hl.2 hb.1 hb.2, show wrap64 ((i : Int) + 1) = ((i + 1 : Nat) : Int) by unfold wrap64; omega]
    exact ih k (i + 1) (by omega) (by omega) (by omega)
theorem FromBe_ev (s : ByteArray) : Ev (fun k => bytes_FromBe.f k s) (fbR s) := by
  refine Ev.of (bytes_FromBe.mono s) (k := 9) ?_
  unfold bytes_FromBe.f
  by_cases h : s.size ≤ 8
  · rw [if_neg (by omega)]
    exact FromBe_l0 s h s.size 9 0 (by omega) (by omega) (by omega)
  · rw [if_pos (by omega)]
    unfold fbR
    rw [if_pos (by omega)]
theorem and_mask (x : Int) (i : Nat) (hi : i < 63) : Go.bits .and .i64 x (2 ^ i - 1 : Nat) = x % 2 ^ i := by
  have hlt : (2 : Nat) ^ i - 1 < 18446744073709551616 := by
    have : (2 : Nat) ^ i < 2 ^ 63 := Nat.pow_lt_pow_right (by omega) hi
    omega
  have h2 : (2 : Nat) ^ i < 2 ^ 63 := Nat.pow_lt_pow_right (by omega) hi
  show IntKind.i64.wrap ((BitVec.ofInt 64 x &&& BitVec.ofInt 64 ((2 ^ i - 1 : Nat) : Int)).toNat : Int) = _
  rw [BitVec.toNat_and, BitVec.ofInt_natCast, BitVec.toNat_ofNat, Nat.mod_eq_of_lt (by simpa using hlt), Nat.and_two_pow_sub_one_eq_mod, BitVec.toNat_ofInt]
  have hd : (2 : Int) ^ i ∣ ((2 ^ 64 : Nat) : Int) := by
    have : (2 : Nat) ^ i ∣ 2 ^ 64 := Nat.pow_dvd_pow 2 (by omega)
    have := Int.natCast_dvd_natCast.2 this
    simpa using this
  have h3 : (((x % ((2 ^ 64 : Nat) : Int)).toNat % 2 ^ i : Nat) : Int) = x % 2 ^ i := by
    rw [Int.natCast_emod, Int.toNat_of_nonneg (Int.emod_nonneg _ (by decide))]
    simpa using Int.emod_emod_of_dvd x hd
  rw [h3, IntKind.wrap_i64]
  have h4 : (0 : Int) < 2 ^ i := Int.pow_pos (by decide)
  have h5 : (2 : Int) ^ i < 9223372036854775808 := by
    have := Int.ofNat_lt.2 h2
    simpa using this
  have h6 := Int.emod_nonneg x (show (2 : Int) ^ i ≠ 0 by omega)
  have h7 := Int.emod_lt_of_pos x h4
  omega
theorem and255 (x : Int) : Go.bits .and .i64 x 255 = x % 256 := and_mask x 8 (by decide)
theorem FromBeR_l0 (s : ByteArray) (hs : s.size ≤ 8) (hs8 : fromL s s.size < 9223372036854775808) (d : Nat) : ∀ (k i : Nat), i ≤ s.size → s.size - i = d → d < k →
    lacquerref02_FromBe.l0 k s (fromL s i) (i : Int) = some (fromL s s.size) := by
  induction d with
  | zero =>
    intro k i h1 h2 h3
    obtain ⟨k, rfl⟩ : ∃ m, k = m + 1 := ⟨k - 1, by omega⟩
    obtain rfl : i = s.size := by omega
    simp only [lacquerref02_FromBe.l0]
    rw [if_neg (by omega)]
  | succ d ih =>
    intro k i h1 h2 h3
    obtain ⟨k, rfl⟩ : ∃ m, k = m + 1 := ⟨k - 1, by omega⟩
    have hl := fromL_lt s i (by omega)
    have hb := bt_range s (i : Nat)
    have hn : fromL s (i + 1) < 9223372036854775808 := by
      by_cases c : i + 1 = s.size
      · rw [c]; exact hs8
      · have := fromL_lt s (i + 1) (by omega); omega
    simp only [fromL] at hn
    have e : wrap64 (wrap64 (fromL s i * 256) + wrap64 (bt s (i : Nat))) = fromL s (i + 1) := by
      simp only [fromL]
      unfold wrap64
      omega
    simp only [lacquerref02_FromBe.l0]
    rw [if_pos (by omega), if_pos (by omega), e, show wrap64 ((i : Int) + 1) = ((i + 1 : Nat) : Int) by unfold wrap64; omega]
    exact ih k (i + 1) (by omega) (by omega) (by omega)
theorem fromL_head (s : ByteArray) : ∀ i, 1 ≤ i → bt s 0 * 256 ^ (i - 1) ≤ fromL s i ∧ fromL s i < (bt s 0 + 1) * 256 ^ (i - 1)
  | 0, h => by omega
  | 1, _ => by simp [fromL]; omega
  | i + 2, _ => by
    have := fromL_head s (i + 1) (by omega)
    have hb := bt_range s ((i + 1 : Nat) : Int)
    have e : i + 2 - 1 = (i + 1 - 1) + 1 := by omega
    rw [e, Int.pow_succ, ← Int.mul_assoc, ← Int.mul_assoc]
    have e2 : fromL s (i + 2) = fromL s (i + 1) * 256 + bt s ((i + 1 : Nat) : Int) := rfl
    omega
theorem FromBeR_ev (s : ByteArray) : Ev (fun k => lacquerref02_FromBe.f k s) (fbR s) := by
  refine Ev.of (lacquerref02_FromBe.mono s) (k := 11) ?_
  unfold lacquerref02_FromBe.f fbR
  by_cases h : 8 < s.size
  · rw [if_pos (by omega), if_pos h]
    simp [lacquerref02_FromBe.j0]
  · rw [if_neg (by omega), if_neg h]
    by_cases h8 : s.size = 8
    · have hh := fromL_head s 8 (by omega)
      have e : (256 : Int) ^ (8 - 1) = 72057594037927936 := by decide
      rw [e] at hh
      rw [if_pos (by omega), if_pos (by omega)]
      by_cases c : bt s 0 > 127
      · rw [h8, if_pos (by omega), decide_eq_true c]
        simp [lacquerref02_FromBe.j0]
      · rw [if_neg (by rw [h8]; omega), decide_eq_false c]
        simp only [lacquerref02_FromBe.j0]
        rw [if_neg (by decide)]
        exact FromBeR_l0 s (by omega) (by rw [h8]; omega) s.size 10 0 (by omega) (by omega) (by omega)
    · have hl : fromL s s.size < 9223372036854775808 := by have := fromL_lt s s.size (by omega); omega
      rw [if_neg (by omega), if_neg (by omega)]
      simp only [lacquerref02_FromBe.j0]
      rw [if_neg (by decide)]
      exact FromBeR_l0 s (by omega) hl s.size 10 0 (by omega) (by omega) (by omega)
theorem toList_data (s : ByteArray) : s.toList = s.data.toList :=
  ByteArray.toList_eq s
theorem bt_extract (s : ByteArray) (a b i : Nat) (hb : b ≤ s.size) (hi : a + i < b) : bt (s.extract a b) (i : Nat) = bt s ((a + i : Nat) : Int) := by
  have h1 : i < (s.extract a b).size := by simp; omega
  have h2 : a + i < s.size := by omega
  simp only [bt, Int.toNat_natCast, dif_pos h1, dif_pos h2]
  congr 2
  exact ByteArray.getElem_extract h1
theorem toList_inj {a b : ByteArray} (h : a.toList = b.toList) : a = b := by
  rw [toList_data, toList_data] at h
  apply ByteArray.ext
  exact Array.toList_inj.1 h
theorem leL_bytes (w : Nat) : ∀ n : Int, ∀ x ∈ leL w n, 0 ≤ x ∧ x < 256 := by
  induction w with
  | zero => intro n x hx; simp [leL] at hx
  | succ w ih =>
    intro n x hx
    simp only [leL, List.mem_cons] at hx
    rcases hx with rfl | hx
    · omega
    · exact ih _ x hx
end Go.Proofs.Ytgihacaegmpggaa.Be

/- The plain law of layer 13: which bodies may be (tracks, pictures). -/
namespace Go.Proofs.Ytgihacaegmpggaa.Plain
open Go.RowKit Go.Proofs.Ytgihacaegmpggaa Go.Proofs.Ytgihacaegmpggaa.R Go.Proofs.Ytgihacaegmpggaa.Be Go.Proofs.YtgihacaegmpggaaW.PrintWords Go.Proofs.YtgihacaegmpggaaW.PrintLast Go.Proofs.YtgihacaegmpggaaW.PrintMore
set_option linter.unusedVariables false
set_option linter.unusedSimpArgs false

theorem w64 (x : Int) (h : -9223372036854775808 ≤ x) (h2 : x ≤ 9223372036854775807) : wrap64 x = x := by unfold wrap64; omega
theorem bt_in (s : ByteArray) (i : Int) : 0 ≤ bt s i ∧ bt s i ≤ 255 := by
  unfold bt
  split
  · rename_i h
    have := (s[i.toNat]'h).toNat_lt
    omega
  · omega
theorem toList_nil (s : ByteArray) : (s.toList == ([] : List UInt8)) = decide (s.size = 0) := by
  rw [Be.toList_data]
  have e : s.size = s.data.toList.length := (Array.length_toList (xs := s.data)).symm
  rw [e]
  cases s.data.toList <;> simp
theorem extract_tail (s : ByteArray) (a b : Nat) (ha : a ≤ s.size) : (s.extract a s.size).extract b (s.extract a s.size).size = s.extract (a + b) s.size := by
  rw [ByteArray.extract_extract, ByteArray.size_extract]
  congr 1
  omega
theorem size_tail (s : ByteArray) (a : Nat) : (s.extract a s.size).size = s.size - a := by rw [ByteArray.size_extract]; omega
theorem extract_mid (s : ByteArray) (a b c : Nat) (hc : a + c ≤ s.size) : (s.extract a s.size).extract b c = s.extract (a + b) (a + c) := by
  rw [ByteArray.extract_extract]
  congr 1
  omega

/-- Tracks from a place on. -/
def trk (s : ByteArray) : Nat → Nat → Bool
  | 0, p => decide (p = s.size)
  | n + 1, p => if s.size < p + 36 then false else trk s n (p + 36 + 12 * (bt s ((p + 35 : Nat) : Int)).toNat)
theorem trk_over (s : ByteArray) : ∀ n p, s.size < p → trk s n p = false
  | 0, p, h => decide_eq_false (by omega)
  | n + 1, p, h => by unfold trk; rw [if_pos (by omega)]
def tracksF (s : ByteArray) : Bool := if s.size < 396 then false else if bt s 395 < 1 then false else if 100 < bt s 395 then false else trk s (bt s 395).toNat 396
theorem tracks_l0 (s : ByteArray) (hs : s.size ≤ 140737488355328) (x3 x14 : Int) : ∀ (n p i : Nat), p ≤ s.size → x14 = ((i + n : Nat) : Int) → i + n ≤ 255 →
    Ev (fun k => meta_tracks.l0 k x3 (s.extract p s.size) x14 (i : Nat)) (trk s n p && (decide (1 ≤ x3) && decide (x3 ≤ 100)))
  | 0, p, i, hp, hx, hi => by
    refine Ev.step (f := fun _ => some (trk s 0 p && (decide (1 ≤ x3) && decide (x3 ≤ 100)))) (fun k => ?_) (Ev.now _)
    simp only [meta_tracks.l0]
    rw [if_neg (by omega), toList_nil, size_tail]
    have e : decide (s.size - p = 0) = trk s 0 p := by
      unfold trk
      exact decide_eq_decide.2 (by omega)
    rw [e]
    by_cases h1 : 1 ≤ x3
    · rw [if_pos h1]
      by_cases h2 : x3 ≤ 100
      · rw [if_pos h2, decide_eq_true h1, decide_eq_true h2]
        simp
      · rw [if_neg h2, decide_eq_false h2]
        simp
    · rw [if_neg h1, decide_eq_false h1]
      simp
  | n + 1, p, i, hp, hx, hi => by
    have hsz := size_tail s p
    by_cases h36 : s.size < p + 36
    · have e : trk s (n + 1) p = false := by unfold trk; rw [if_pos h36]
      rw [e]
      refine Ev.step (f := fun _ => some (false && (decide (1 ≤ x3) && decide (x3 ≤ 100)))) (fun k => ?_) (Ev.now _)
      simp only [meta_tracks.l0]
      rw [if_pos (by omega), if_pos (by rw [hsz]; omega)]
      rfl
    · obtain ⟨b, hb⟩ : ∃ b : Nat, bt s ((p + 35 : Nat) : Int) = (b : Int) := ⟨(bt s ((p + 35 : Nat) : Int)).toNat, by have := bt_in s ((p + 35 : Nat) : Int); omega⟩
      have hb2 := bt_in s ((p + 35 : Nat) : Int)
      rw [hb] at hb2
      have e : trk s (n + 1) p = trk s n (p + 36 + 12 * b) := by
        conv => lhs; unfold trk
        rw [if_neg h36, hb, Int.toNat_natCast]
      have hbx : bt (s.extract p s.size) 35 = (b : Int) := by rw [← hb]; exact bt_extract s p s.size 35 (Nat.le_refl _) (by omega)
      have hw : wrap64 (36 + wrap64 (12 * wrap64 (b : Int))) = ((36 + 12 * b : Nat) : Int) := by
        rw [w64 (b : Int) (by omega) (by omega), w64 (12 * (b : Int)) (by omega) (by omega), w64 _ (by omega) (by omega)]
        omega
      rw [e]
      by_cases hlong : s.size < p + (36 + 12 * b)
      · rw [trk_over s n _ (by omega)]
        refine Ev.step (f := fun _ => some (false && (decide (1 ≤ x3) && decide (x3 ≤ 100)))) (fun k => ?_) (Ev.now _)
        simp only [meta_tracks.l0]
        rw [if_pos (by omega), if_neg (by rw [hsz]; omega), if_pos (by rw [hsz]; omega), hbx, hw, if_pos (by rw [hsz]; omega)]
        rfl
      · refine Ev.step (fun k => ?_) (tracks_l0 s hs x3 x14 n (p + 36 + 12 * b) (i + 1) (by omega) (by omega) (by omega))
        simp only [meta_tracks.l0]
        rw [if_pos (by omega), if_neg (by rw [hsz]; omega), if_pos (by rw [hsz]; omega), hbx, hw, if_neg (by rw [hsz]; omega), if_pos (by omega), if_pos (by rw [hsz]; omega),
          Int.toNat_natCast, extract_tail s p _ hp, w64 ((i : Int) + 1) (by omega) (by omega), Nat.add_assoc]
        rfl
theorem tracks_ev (s : ByteArray) (hs : s.size ≤ 140737488355328) : Ev (fun k => meta_tracks.f k s) (tracksF s) := by
  unfold tracksF
  by_cases h : s.size < 396
  · rw [if_pos h]
    refine Ev.congr (f := fun _ => some false) (fun k => ?_) (Ev.now _)
    unfold meta_tracks.f
    rw [if_pos (by omega)]
  · rw [if_neg h]
    obtain ⟨b, hb⟩ : ∃ b : Nat, bt s 395 = (b : Int) := ⟨(bt s 395).toNat, by have := bt_in s 395; omega⟩
    have hb2 := bt_in s 395
    rw [hb] at hb2 ⊢
    have := tracks_l0 s hs b b b 396 0 (by omega) (by omega) (by omega)
    refine Ev.congr (f := fun k => meta_tracks.l0 k b (s.extract 396 s.size) b ((0 : Nat) : Int)) (fun k => ?_) ?_
    · unfold meta_tracks.f
      rw [if_neg (by omega), if_pos (by omega), if_pos (by omega), hb, w64 _ (by omega) (by omega)]
      rfl
    · have e : (if (b : Int) < 1 then false else if 100 < (b : Int) then false else trk s (b : Int).toNat 396) = (trk s b 396 && (decide (1 ≤ (b : Int)) && decide ((b : Int) ≤ 100))) := by
        rw [Int.toNat_natCast]
        by_cases h1 : (b : Int) < 1
        · rw [if_pos h1, decide_eq_false (by omega)]
          simp
        · rw [if_neg h1, decide_eq_true (by omega)]
          by_cases h2 : 100 < (b : Int)
          · rw [if_pos h2, decide_eq_false (by omega)]
            simp
          · rw [if_neg h2, decide_eq_true (by omega)]
            simp
      rw [e]
      exact this
theorem cue_l0 (s : ByteArray) (hs : s.size ≤ 140737488355328) (b : Nat) (hb : bt s 395 = (b : Int)) (hb2 : b ≤ 100) (h396 : 396 ≤ s.size) : ∀ (n p i : Nat), b = i + n → p ≤ 396 + 3096 * i →
    Ev (fun k => lacquerref13_cuesheet.l0 k s (p : Nat) (i : Nat)) (trk s n p)
  | 0, p, i, hx, hp => by
    refine Ev.step (f := fun _ => some (trk s 0 p)) (fun k => ?_) (Ev.now _)
    simp only [lacquerref13_cuesheet.l0]
    rw [if_pos (by omega), hb, w64 _ (by omega) (by omega), if_neg (by omega)]
    congr 1
    unfold trk
    rw [Bool.eq_iff_iff]
    simp
    omega
  | n + 1, p, i, hx, hp => by
    by_cases h36 : s.size < p + 36
    · have e : trk s (n + 1) p = false := by unfold trk; rw [if_pos h36]
      rw [e]
      refine Ev.step (f := fun _ => some false) (fun k => ?_) (Ev.now _)
      simp only [lacquerref13_cuesheet.l0]
      rw [if_pos (by omega), hb, w64 (b : Int) (by omega) (by omega), if_pos (by omega), w64 ((p : Int) + 36) (by omega) (by omega), if_pos (by omega)]
    · obtain ⟨c, hc⟩ : ∃ c : Nat, bt s ((p + 35 : Nat) : Int) = (c : Int) := ⟨(bt s ((p + 35 : Nat) : Int)).toNat, by have := bt_in s ((p + 35 : Nat) : Int); omega⟩
      have hc2 := bt_in s ((p + 35 : Nat) : Int)
      rw [hc] at hc2
      have e : trk s (n + 1) p = trk s n (p + 36 + 12 * c) := by
        conv => lhs; unfold trk
        rw [if_neg h36, hc, Int.toNat_natCast]
      have hw : wrap64 ((p : Int) + wrap64 (36 + wrap64 (12 * wrap64 (c : Int)))) = ((p + 36 + 12 * c : Nat) : Int) := by
        rw [w64 (c : Int) (by omega) (by omega), w64 (12 * (c : Int)) (by omega) (by omega), w64 (36 + 12 * (c : Int)) (by omega) (by omega), w64 _ (by omega) (by omega)]
        omega
      have e35 : wrap64 ((p : Int) + 35) = ((p + 35 : Nat) : Int) := by rw [w64 _ (by omega) (by omega)]; omega
      rw [e]
      refine Ev.step (fun k => ?_) (cue_l0 s hs b hb hb2 h396 n (p + 36 + 12 * c) (i + 1) (by omega) (by omega))
      simp only [lacquerref13_cuesheet.l0]
      rw [if_pos (by omega), hb, w64 (b : Int) (by omega) (by omega), if_pos (by omega), w64 ((p : Int) + 36) (by omega) (by omega), if_neg (by omega), e35, if_pos (by omega), if_pos (by omega), hc, hw, w64 ((i : Int) + 1) (by omega) (by omega)]
      rfl
theorem cue_ev (s : ByteArray) (hs : s.size ≤ 140737488355328) : Ev (fun k => lacquerref13_cuesheet.f k s) (tracksF s) := by
  unfold tracksF
  have hno : Ev (fun k => lacquerref13_cuesheet.j0 k s true) false := Ev.step (f := fun _ => some false) (fun k => by simp only [lacquerref13_cuesheet.j0]; rw [if_pos trivial]) (Ev.now _)
  by_cases h : s.size < 396
  · rw [if_pos h]
    refine Ev.congr (fun k => ?_) hno
    unfold lacquerref13_cuesheet.f
    rw [if_pos (by omega)]
  · rw [if_neg h]
    by_cases h1 : bt s 395 < 1
    · rw [if_pos h1]
      refine Ev.congr (fun k => ?_) hno
      unfold lacquerref13_cuesheet.f
      rw [if_neg (by omega), if_pos (by omega), if_pos h1]
    · rw [if_neg h1]
      by_cases h2 : 100 < bt s 395
      · rw [if_pos h2]
        refine Ev.congr (fun k => ?_) hno
        unfold lacquerref13_cuesheet.f
        rw [if_neg (by omega), if_pos (by omega), if_neg h1, decide_eq_true h2]
      · rw [if_neg h2]
        obtain ⟨b, hb⟩ : ∃ b : Nat, bt s 395 = (b : Int) := ⟨(bt s 395).toNat, by omega⟩
        have := cue_l0 s hs b hb (by omega) (by omega) b 396 0 (by omega) (by omega)
        rw [hb, Int.toNat_natCast]
        refine Ev.congr (f := fun k => lacquerref13_cuesheet.j0 k s false) (fun k => ?_) (Ev.step (fun k => ?_) this)
        · unfold lacquerref13_cuesheet.f
          rw [if_neg (by omega), if_pos (by omega), if_neg h1, decide_eq_false h2]
        · simp only [lacquerref13_cuesheet.j0]
          rw [if_neg (by decide)]
          rfl
end Go.Proofs.Ytgihacaegmpggaa.Plain

/- The plain law of layer 13: pictures, and which blocks may be. -/
namespace Go.Proofs.Ytgihacaegmpggaa.Plain
open Go.RowKit Go.Proofs.Ytgihacaegmpggaa Go.Proofs.Ytgihacaegmpggaa.R Go.Proofs.Ytgihacaegmpggaa.Be Go.Proofs.YtgihacaegmpggaaW.PrintWords Go.Proofs.YtgihacaegmpggaaW.PrintLast Go.Proofs.YtgihacaegmpggaaW.PrintMore
set_option linter.unusedVariables false
set_option linter.unusedSimpArgs false

/-- Four bytes are a number below 2^32; three, below 2^24. -/
theorem fb_in (s : ByteArray) (h : s.size ≤ 4) : 0 ≤ fbR s ∧ fbR s < 4294967296 ∧ fbR s < 256 ^ s.size := by
  have h1 := fromL_range s s.size
  have h2 : (256 : Int) ^ s.size ≤ 4294967296 := by
    rcases (show s.size = 0 ∨ s.size = 1 ∨ s.size = 2 ∨ s.size = 3 ∨ s.size = 4 by omega) with e | e | e | e | e <;> rw [e] <;> decide
  have e : fbR s = fromL s s.size := by
    unfold fbR
    rw [if_neg (by omega), if_neg (by omega)]
  rw [e]
  exact ⟨h1.1, by omega, h1.2⟩
/-- A picture from a place on: parts, each behind so many bytes. -/
def pic (s : ByteArray) : List Nat → Nat → Bool
  | [], p => decide (p = s.size)
  | o :: os, p => if s.size < p + o + 4 then false else if (s.size : Int) - ((p + o + 4 : Nat) : Int) < fbR (s.extract (p + o) (p + o + 4)) then false else pic s os (p + o + 4 + (fbR (s.extract (p + o) (p + o + 4))).toNat)
theorem part_no (s : ByteArray) (hs : s.size ≤ 140737488355328) (p o : Nat) (hp : p ≤ s.size) (ho : o ≤ 16) (h : s.size < p + o + 4) : Ev (fun k => meta_part.f k (s.extract p s.size) (o : Nat)) (⟨#[]⟩, false) := by
  refine Ev.congr (f := fun _ => some (⟨#[]⟩, false)) (fun k => ?_) (Ev.now _)
  unfold meta_part.f
  rw [w64 ((o : Int) + 4) (by omega) (by omega), if_pos (by rw [size_tail]; omega)]
theorem part_at (s : ByteArray) (hs : s.size ≤ 140737488355328) (p o : Nat) (hp : p ≤ s.size) (ho : o ≤ 16) (h : ¬ s.size < p + o + 4) :
    Ev (fun k => meta_part.f k (s.extract p s.size) (o : Nat)) (if (s.size : Int) - ((p + o + 4 : Nat) : Int) < fbR (s.extract (p + o) (p + o + 4)) then (⟨#[]⟩, false) else (s.extract (p + o + 4 + (fbR (s.extract (p + o) (p + o + 4))).toNat) s.size, true)) := by
  have hz := size_tail s p
  have e1 : (s.extract p s.size).extract o (s.extract p s.size).size = s.extract (p + o) s.size := extract_tail s p o hp
  have hz2 := size_tail s (p + o)
  have e2 : (s.extract (p + o) s.size).extract 0 4 = s.extract (p + o) (p + o + 4) := by rw [extract_mid s (p + o) 0 4 (by omega), Nat.add_zero]
  have hx4 : (s.extract (p + o) (p + o + 4)).size ≤ 4 := by rw [ByteArray.size_extract]; omega
  have hfb := fb_in _ hx4
  have hev := Be.FromBe_ev (s.extract (p + o) (p + o + 4))
  generalize fbR (s.extract (p + o) (p + o + 4)) = t at hfb hev ⊢
  refine Ev.congr (f := fun k => (bytes_FromBe.f k (s.extract (p + o) (p + o + 4))).bind fun t => if t > (s.size : Int) - ((p + o + 4 : Nat) : Int) then some ((⟨#[]⟩ : ByteArray), false) else if 0 ≤ wrap64 (4 + t) then (if wrap64 (4 + t) ≤ ((s.extract (p + o) s.size).size : Int) then some ((s.extract (p + o) s.size).extract (wrap64 (4 + t)).toNat (s.extract (p + o) s.size).size, true) else none) else none) (fun k => ?_) ?_
  · unfold meta_part.f
    have hw : wrap64 (((s.extract (p + o) s.size).size : Int) - 4) = (s.size : Int) - ((p + o + 4 : Nat) : Int) := by
      rw [hz2, w64 _ (by omega) (by omega)]
      omega
    rw [w64 ((o : Int) + 4) (by omega) (by omega), if_neg (by rw [hz]; omega), if_pos (by omega), if_pos (by rw [hz]; omega), if_pos (by decide), Int.toNat_natCast, e1, if_pos (by rw [hz2]; omega), e2, hw]
  · refine Ev.bind hev ?_
    by_cases h1 : (s.size : Int) - ((p + o + 4 : Nat) : Int) < t
    · rw [show (if (s.size : Int) - ((p + o + 4 : Nat) : Int) < t then ((⟨#[]⟩ : ByteArray), false) else (s.extract (p + o + 4 + t.toNat) s.size, true)) = (⟨#[]⟩, false) from if_pos h1]
      exact Ev.congr (f := fun _ => some (⟨#[]⟩, false)) (fun k => if_pos h1) (Ev.now _)
    · rw [show (if (s.size : Int) - ((p + o + 4 : Nat) : Int) < t then ((⟨#[]⟩ : ByteArray), false) else (s.extract (p + o + 4 + t.toNat) s.size, true)) = (s.extract (p + o + 4 + t.toNat) s.size, true) from if_neg h1]
      refine Ev.congr (f := fun _ => some (s.extract (p + o + 4 + t.toNat) s.size, true)) (fun k => ?_) (Ev.now _)
      rw [if_neg h1, w64 (4 + t) (by omega) (by omega), if_pos (by omega), if_pos (by rw [hz2]; omega), extract_tail s (p + o) _ (by omega)]
      congr 3
      omega
theorem image_l0 (s : ByteArray) (hs : s.size ≤ 140737488355328) (ys : List Int) (os : List Nat) (hy : ys = os.map (fun o => ((o : Nat) : Int))) (ho : ∀ o ∈ os, o ≤ 16) (hl : os.length ≤ 100) :
    ∀ (d p i : Nat), p ≤ s.size → i + d = os.length → Ev (fun k => meta_image.l0 k (s.extract p s.size) ys (os.length : Nat) (i : Nat)) (pic s (os.drop i) p)
  | 0, p, i, hp, hi => by
    rw [List.drop_eq_nil_of_le (by omega)]
    refine Ev.step (f := fun _ => some (pic s [] p)) (fun k => ?_) (Ev.now _)
    simp only [meta_image.l0]
    rw [if_neg (by omega), toList_nil, size_tail]
    congr 1
    exact decide_eq_decide.2 (by omega)
  | d + 1, p, i, hp, hi => by
    have hlt : i < os.length := by omega
    rw [List.drop_eq_getElem_cons hlt]
    have hrd : rd ys (i : Nat) = ((os[i] : Nat) : Int) := by
      rw [hy]
      simp [rd, hlt]
    have ho16 : os[i] ≤ 16 := ho _ (List.getElem_mem hlt)
    have ih := fun q hq => image_l0 s hs ys os hy ho hl d q (i + 1) hq (by omega)
    generalize os[i] = o at hrd ho16
    have hstep : ∀ k, meta_image.l0 (k + 1) (s.extract p s.size) ys (os.length : Nat) (i : Nat) = (meta_part.f k (s.extract p s.size) (o : Nat)).bind fun b => if b.2 = true then meta_image.l0 k b.1 ys (os.length : Nat) ((i + 1 : Nat) : Int) else some false := fun k => by
      simp only [meta_image.l0]
      rw [if_pos (by omega), if_pos (by omega), if_pos (by rw [hy, List.length_map]; omega), hrd, w64 ((i : Int) + 1) (by omega) (by omega)]
      rfl
    by_cases h : s.size < p + o + 4
    · have e : pic s (o :: os.drop (i + 1)) p = false := by unfold pic; rw [if_pos h]
      rw [e]
      exact Ev.step hstep (Ev.bind (part_no s hs p o hp ho16 h) (Ev.congr (fun k => if_neg (by decide)) (Ev.now _)))
    · have hpt := part_at s hs p o hp ho16 h
      have hfb := fb_in (s.extract (p + o) (p + o + 4)) (by rw [ByteArray.size_extract]; omega)
      have e : pic s (o :: os.drop (i + 1)) p = if (s.size : Int) - ((p + o + 4 : Nat) : Int) < fbR (s.extract (p + o) (p + o + 4)) then false else pic s (os.drop (i + 1)) (p + o + 4 + (fbR (s.extract (p + o) (p + o + 4))).toNat) := by
        conv => lhs; unfold pic
        rw [if_neg h]
      rw [e]
      generalize fbR (s.extract (p + o) (p + o + 4)) = t at hpt hfb
      by_cases h1 : (s.size : Int) - ((p + o + 4 : Nat) : Int) < t
      · rw [if_pos h1] at hpt ⊢
        exact Ev.step hstep (Ev.bind hpt (Ev.congr (fun k => if_neg (by decide)) (Ev.now _)))
      · rw [if_neg h1] at hpt ⊢
        exact Ev.step hstep (Ev.bind hpt (Ev.congr (fun k => if_pos rfl) (ih (p + o + 4 + t.toNat) (by omega))))
def imageF (s : ByteArray) : Bool := pic s [4, 0, 16] 0
theorem image_ev (s : ByteArray) (hs : s.size ≤ 140737488355328) : Ev (fun k => meta_image.f k s) (imageF s) := by
  have := image_l0 s hs [4, 0, 16] [4, 0, 16] rfl (by decide) (by decide) 3 0 0 (by omega) rfl
  rw [show s.extract 0 s.size = s from ByteArray.extract_zero_size] at this
  exact this
theorem pict_j1 (s : ByteArray) (hs : s.size ≤ 140737488355328) (p o : Nat) (os : List Nat) (i : Int) (hpo : p ≤ s.size) (hoo : o ≤ 16)
    (ih : ∀ q, q ≤ s.size → Ev (fun k => lacquerref13_picture.l0 k s (q : Nat) (wrap64 (i + 1))) (pic s os q)) :
    Ev (fun k => lacquerref13_picture.j1 k s ((p + o : Nat) : Int) i) (pic s (o :: os) p) := by
  by_cases h : s.size < p + o + 4
  · have e : pic s (o :: os) p = false := by unfold pic; rw [if_pos h]
    rw [e]
    refine Ev.step (f := fun _ => some false) (fun k => ?_) (Ev.now _)
    simp only [lacquerref13_picture.j1]
    rw [w64 (((p + o : Nat) : Int) + 4) (by omega) (by omega), if_pos (by omega)]
  · have e : pic s (o :: os) p = if (s.size : Int) - ((p + o + 4 : Nat) : Int) < fbR (s.extract (p + o) (p + o + 4)) then false else pic s os (p + o + 4 + (fbR (s.extract (p + o) (p + o + 4))).toNat) := by
      conv => lhs; unfold pic
      rw [if_neg h]
    rw [e]
    have hfb := fb_in (s.extract (p + o) (p + o + 4)) (by rw [ByteArray.size_extract]; omega)
    have hev := Be.FromBeR_ev (s.extract (p + o) (p + o + 4))
    have e4 : wrap64 (((p + o : Nat) : Int) + 4) = ((p + o + 4 : Nat) : Int) := by rw [w64 _ (by omega) (by omega)]; omega
    refine Ev.step (f := fun k => (lacquerref02_FromBe.f k (s.extract (p + o) (p + o + 4))).bind fun t => if t > (s.size : Int) - ((p + o + 4 : Nat) : Int) then some false else lacquerref13_picture.l0 k s (wrap64 (((p + o + 4 : Nat) : Int) + t)) (wrap64 (i + 1))) (fun k => ?_) ?_
    · simp only [lacquerref13_picture.j1]
      rw [e4, if_neg (by omega), if_pos (by omega), if_pos (by omega), if_pos (by omega), Int.toNat_natCast, Int.toNat_natCast, w64 ((s.size : Int) - _) (by omega) (by omega)]
    · refine Ev.bind hev ?_
      generalize fbR (s.extract (p + o) (p + o + 4)) = t at hfb
      by_cases h1 : (s.size : Int) - ((p + o + 4 : Nat) : Int) < t
      · rw [if_pos h1]
        exact Ev.congr (fun k => if_pos h1) (Ev.now _)
      · rw [if_neg h1]
        refine Ev.congr (f := fun k => lacquerref13_picture.l0 k s ((p + o + 4 + t.toNat : Nat) : Int) (wrap64 (i + 1))) (fun k => ?_) (ih _ (by omega))
        rw [if_neg h1, w64 _ (by omega) (by omega)]
        congr 1
        omega
theorem pict_ev (s : ByteArray) (hs : s.size ≤ 140737488355328) : Ev (fun k => lacquerref13_picture.f k s) (imageF s) := by
  unfold imageF
  have h3 : ∀ q, q ≤ s.size → Ev (fun k => lacquerref13_picture.l0 k s (q : Nat) 3) (pic s [] q) := fun q hq => by
    refine Ev.step (f := fun _ => some (pic s [] q)) (fun k => ?_) (Ev.now _)
    simp only [lacquerref13_picture.l0]
    rw [if_neg (by decide)]
    congr 1
    unfold pic
    rw [Bool.eq_iff_iff]
    simp
    omega
  have h2 : ∀ q, q ≤ s.size → Ev (fun k => lacquerref13_picture.l0 k s (q : Nat) 2) (pic s [16] q) := fun q hq => by
    refine Ev.step (fun k => ?_) (pict_j1 s hs q 16 [] 2 hq (by decide) (by rw [show wrap64 ((2 : Int) + 1) = 3 from by rw [w64 _ (by decide) (by decide)]; rfl]; exact h3))
    simp only [lacquerref13_picture.l0]
    rw [if_pos (by decide), if_pos (by decide), w64 _ (by omega) (by omega)]
    rfl
  have h1 : ∀ q, q ≤ s.size → Ev (fun k => lacquerref13_picture.l0 k s (q : Nat) 1) (pic s [0, 16] q) := fun q hq => by
    refine Ev.step (fun k => ?_) (pict_j1 s hs q 0 [16] 1 hq (by decide) (by rw [show wrap64 ((1 : Int) + 1) = 2 from by rw [w64 _ (by decide) (by decide)]; rfl]; exact h2))
    simp only [lacquerref13_picture.l0]
    rw [if_pos (by decide), if_neg (by decide)]
    rfl
  refine Ev.step (g := fun k => lacquerref13_picture.f k s) (fun k => ?_) (pict_j1 s hs 0 4 [0, 16] 0 (by omega) (by decide) (by rw [show wrap64 ((0 : Int) + 1) = 1 from by rw [w64 _ (by decide) (by decide)]; rfl]; exact h1))
  unfold lacquerref13_picture.f
  simp only [lacquerref13_picture.l0]
  rw [if_pos (by decide), if_neg (by decide)]
  rfl
end Go.Proofs.Ytgihacaegmpggaa.Plain

/- Printed by a program of ours (pp.sh), partly over contracts proved by hand. -/
namespace Go.Proofs.Ytgihacaegmpggaa.R
open Go.RowKit Go.Proofs.YtgihacaegmpggaaW.PrintWords Go.Proofs.YtgihacaegmpggaaW.PrintLast Go.Proofs.YtgihacaegmpggaaW.PrintMore
attribute [local go_sem] max2_int min2_int max_two min_two max_three min_three max_four min_four   -- for this text's walks alone
set_option linter.unusedVariables false
set_option linter.unusedSimpArgs false

/-! ### meta_Parse: function 15 -/
mutual
def meta_Parse.l0 : Nat → ByteArray → List (S36) → ByteArray → Bool → Int → Option ((List (S36)) × Int × Int)
  | 0, _, _, _, _, _ => none
  | k + 1, x0, x5, x6, x7, x8 => if x7 = true then (some (x5, wrap64 ((x0.size : Int) - (x6.size : Int)), 0)) else (if (x6.size : Int) < 4 then (meta_Parse.j1 k x0 x5 x6 x8 true) else (if 1 ≤ 4 then (if 4 ≤ (x6.size : Int) then ((bytes_FromBe.f k (x6.extract 1 4)).bind fun t139 => (meta_Parse.j1 k x0 x5 x6 x8 (decide (t139 > (wrap64 ((x6.size : Int) - 4)))))) else (none)) else (none)))
def meta_Parse.j1 : Nat → ByteArray → List (S36) → ByteArray → Int → Bool → Option ((List (S36)) × Int × Int)
  | 0, _, _, _, _, _ => none
  | k + 1, x0, x5, x6, x8, x26 => if x26 = true then (some (([] : List (S36)), 0, 2)) else (if 1 ≤ 4 then (if 4 ≤ (x6.size : Int) then ((bytes_FromBe.f k (x6.extract 1 4)).bind fun t140 => (if 0 < (x6.size : Int) then (if 4 ≤ (wrap64 (4 + t140)) then (if (wrap64 (4 + t140)) ≤ (x6.size : Int) then (if 0 ≤ (wrap64 (4 + t140)) then (if (wrap64 (Go.bits .and .u8 (bt x6 0) 127)) = 4 then (meta_Parse.j2 k x0 x5 (x6.extract ((wrap64 (4 + t140)) : Int).toNat x6.size) (decide ((bt x6 0) > 127)) (wrap64 (x8 + 1)) (wrap64 (Go.bits .and .u8 (bt x6 0) 127)) (x6.extract 4 ((wrap64 (4 + t140)) : Int).toNat)) else (meta_Parse.j2 k x0 x5 (x6.extract ((wrap64 (4 + t140)) : Int).toNat x6.size) (decide ((bt x6 0) > 127)) x8 (wrap64 (Go.bits .and .u8 (bt x6 0) 127)) (x6.extract 4 ((wrap64 (4 + t140)) : Int).toNat))) else (none)) else (none)) else (none)) else (none))) else (none)) else (none))
def meta_Parse.j2 : Nat → ByteArray → List (S36) → ByteArray → Bool → Int → Int → ByteArray → Option ((List (S36)) × Int × Int)
  | 0, _, _, _, _, _, _, _ => none
  | k + 1, x0, x5, x6, x7, x8, x142000, x142001 => if x142000 = 127 then (meta_Parse.j3 k x0 x5 x6 x7 x8 true x142000 x142001) else (if x8 = 2 then (meta_Parse.j3 k x0 x5 x6 x7 x8 true x142000 x142001) else (meta_Parse.j3 k x0 x5 x6 x7 x8 (((x5.length : Int) == 0) != (x142000 == 0)) x142000 x142001))
def meta_Parse.j3 : Nat → ByteArray → List (S36) → ByteArray → Bool → Int → Bool → Int → ByteArray → Option ((List (S36)) × Int × Int)
  | 0, _, _, _, _, _, _, _, _ => none
  | k + 1, x0, x5, x6, x7, x8, x66, x142000, x142001 => if x66 = true then (some (([] : List (S36)), 0, 2)) else (if (x5.length : Int) = 1024 then (some (([] : List (S36)), 0, 5)) else ((meta_Check.f k x142000 x142001).bind fun t142 => (if t142 = 0 then (if x5.length < 5864062014805 then (meta_Parse.l0 k x0 (x5 ++ [(⟨x142000, x142001⟩ : S36)]) x6 x7 x8) else (none)) else (some (([] : List (S36)), 0, t142)))))
end
def meta_Parse.f (k : Nat) (a0 : ByteArray) : Option ((List (S36)) × Int × Int) := meta_Parse.l0 k a0 ([] : List (S36)) a0 false 0
theorem meta_Parse.mono_l : ∀ k, (∀ y0 y1 y2 y3 y4, LeO (meta_Parse.l0 k y0 y1 y2 y3 y4) (meta_Parse.l0 (k + 1) y0 y1 y2 y3 y4)) ∧ (∀ y0 y1 y2 y3 y4, LeO (meta_Parse.j1 k y0 y1 y2 y3 y4) (meta_Parse.j1 (k + 1) y0 y1 y2 y3 y4)) ∧ (∀ y0 y1 y2 y3 y4 y5 y6, LeO (meta_Parse.j2 k y0 y1 y2 y3 y4 y5 y6) (meta_Parse.j2 (k + 1) y0 y1 y2 y3 y4 y5 y6)) ∧ (∀ y0 y1 y2 y3 y4 y5 y6 y7, LeO (meta_Parse.j3 k y0 y1 y2 y3 y4 y5 y6 y7) (meta_Parse.j3 (k + 1) y0 y1 y2 y3 y4 y5 y6 y7))
  | 0 => ⟨fun _ _ _ _ _ r h => by simp [meta_Parse.l0] at h, fun _ _ _ _ _ r h => by simp [meta_Parse.j1] at h, fun _ _ _ _ _ _ _ r h => by simp [meta_Parse.j2] at h, fun _ _ _ _ _ _ _ _ r h => by simp [meta_Parse.j3] at h⟩
  | k + 1 => by
    obtain ⟨ih0, ih1, ih2, ih3⟩ := meta_Parse.mono_l k
    refine ⟨?_, ?_, ?_, ?_⟩
    · intro y0 y1 y2 y3 y4
      unfold meta_Parse.l0
      repeat' first
      | (with_reducible exact ih0 _ _ _ _ _)
      | (with_reducible exact ih1 _ _ _ _ _)
      | (with_reducible exact ih2 _ _ _ _ _ _ _)
      | (with_reducible exact ih3 _ _ _ _ _ _ _ _)
      | (with_reducible exact bytes_FromBe.mono _ _)
      | (with_reducible exact meta_Check.mono _ _ _)
      | (with_reducible exact LeO.refl _)
      | (with_reducible exact LeO.none _)
      | (with_reducible refine LeO.ite ?_ ?_)
      | (with_reducible refine LeO.bind ?_ (fun _ => ?_))
      | exact ih0 _ _ _ _ _
      | exact ih1 _ _ _ _ _
      | exact ih2 _ _ _ _ _ _ _
      | exact ih3 _ _ _ _ _ _ _ _
      | exact bytes_FromBe.mono _ _
      | exact meta_Check.mono _ _ _
      | exact LeO.none _
      | refine LeO.ite ?_ ?_
      | refine LeO.bind ?_ (fun _ => ?_)
    · intro y0 y1 y2 y3 y4
      unfold meta_Parse.j1
      repeat' first
      | (with_reducible exact ih0 _ _ _ _ _)
      | (with_reducible exact ih1 _ _ _ _ _)
      | (with_reducible exact ih2 _ _ _ _ _ _ _)
      | (with_reducible exact ih3 _ _ _ _ _ _ _ _)
      | (with_reducible exact bytes_FromBe.mono _ _)
      | (with_reducible exact meta_Check.mono _ _ _)
      | (with_reducible exact LeO.refl _)
      | (with_reducible exact LeO.none _)
      | (with_reducible refine LeO.ite ?_ ?_)
      | (with_reducible refine LeO.bind ?_ (fun _ => ?_))
      | exact ih0 _ _ _ _ _
      | exact ih1 _ _ _ _ _
      | exact ih2 _ _ _ _ _ _ _
      | exact ih3 _ _ _ _ _ _ _ _
      | exact bytes_FromBe.mono _ _
      | exact meta_Check.mono _ _ _
      | exact LeO.none _
      | refine LeO.ite ?_ ?_
      | refine LeO.bind ?_ (fun _ => ?_)
    · intro y0 y1 y2 y3 y4 y5 y6
      unfold meta_Parse.j2
      repeat' first
      | (with_reducible exact ih0 _ _ _ _ _)
      | (with_reducible exact ih1 _ _ _ _ _)
      | (with_reducible exact ih2 _ _ _ _ _ _ _)
      | (with_reducible exact ih3 _ _ _ _ _ _ _ _)
      | (with_reducible exact bytes_FromBe.mono _ _)
      | (with_reducible exact meta_Check.mono _ _ _)
      | (with_reducible exact LeO.refl _)
      | (with_reducible exact LeO.none _)
      | (with_reducible refine LeO.ite ?_ ?_)
      | (with_reducible refine LeO.bind ?_ (fun _ => ?_))
      | exact ih0 _ _ _ _ _
      | exact ih1 _ _ _ _ _
      | exact ih2 _ _ _ _ _ _ _
      | exact ih3 _ _ _ _ _ _ _ _
      | exact bytes_FromBe.mono _ _
      | exact meta_Check.mono _ _ _
      | exact LeO.none _
      | refine LeO.ite ?_ ?_
      | refine LeO.bind ?_ (fun _ => ?_)
    · intro y0 y1 y2 y3 y4 y5 y6 y7
      unfold meta_Parse.j3
      repeat' first
      | (with_reducible exact ih0 _ _ _ _ _)
      | (with_reducible exact ih1 _ _ _ _ _)
      | (with_reducible exact ih2 _ _ _ _ _ _ _)
      | (with_reducible exact ih3 _ _ _ _ _ _ _ _)
      | (with_reducible exact bytes_FromBe.mono _ _)
      | (with_reducible exact meta_Check.mono _ _ _)
      | (with_reducible exact LeO.refl _)
      | (with_reducible exact LeO.none _)
      | (with_reducible refine LeO.ite ?_ ?_)
      | (with_reducible refine LeO.bind ?_ (fun _ => ?_))
      | exact ih0 _ _ _ _ _
      | exact ih1 _ _ _ _ _
      | exact ih2 _ _ _ _ _ _ _
      | exact ih3 _ _ _ _ _ _ _ _
      | exact bytes_FromBe.mono _ _
      | exact meta_Check.mono _ _ _
      | exact LeO.none _
      | refine LeO.ite ?_ ?_
      | refine LeO.bind ?_ (fun _ => ?_)
theorem meta_Parse.mono : ∀ a0 k, LeO (meta_Parse.f k a0) (meta_Parse.f (k + 1) a0) := by
  intro a0 k
  obtain ⟨ih0, ih1, ih2, ih3⟩ := meta_Parse.mono_l k
  unfold meta_Parse.f
  repeat' first
      | (with_reducible exact ih0 _ _ _ _ _)
      | (with_reducible exact ih1 _ _ _ _ _)
      | (with_reducible exact ih2 _ _ _ _ _ _ _)
      | (with_reducible exact ih3 _ _ _ _ _ _ _ _)
      | (with_reducible exact bytes_FromBe.mono _ _)
      | (with_reducible exact meta_Check.mono _ _ _)
      | (with_reducible exact LeO.refl _)
      | (with_reducible exact LeO.none _)
      | (with_reducible refine LeO.ite ?_ ?_)
      | (with_reducible refine LeO.bind ?_ (fun _ => ?_))
      | exact ih0 _ _ _ _ _
      | exact ih1 _ _ _ _ _
      | exact ih2 _ _ _ _ _ _ _
      | exact ih3 _ _ _ _ _ _ _ _
      | exact bytes_FromBe.mono _ _
      | exact meta_Check.mono _ _ _
      | exact LeO.none _
      | refine LeO.ite ?_ ?_
      | refine LeO.bind ?_ (fun _ => ?_)
def meta_Parse.T7 : Bool × List (List Nat × List Nat) := (true, [([], []), ([0], [0]), ([1], [1]), ([2], [2]), ([], []), ([], []), ([5], [5]), ([4, 6], [4, 6]), ([3, 7], [3, 7]), ([], []), ([9, 8, 0, 1, 2, 3, 4, 5, 6, 7, 8, 9], [8, 9])])
def meta_Parse.B7 : List Nat := [0, 1, 3, 7, 0, 0, 32, 112, 255, 0, 1023]
theorem meta_Parse.tab7 : rtab .any (opsOf Try.f15 7) = meta_Parse.T7 := by kernel_rfl
theorem meta_Parse.bits7 : waitsOk meta_Parse.T7.2 meta_Parse.B7 = true := by kernel_rfl
def meta_Parse.T8 : Bool × List (List Nat × List Nat) := (true, [([], []), ([0], [0]), ([1], [1]), ([], []), ([], []), ([4], [4]), ([3, 5], [3, 5]), ([2, 0, 1, 2], [2]), ([6, 7, 0, 1, 2, 3, 4, 5, 6, 7], [0, 3, 6])])
def meta_Parse.B8 : List Nat := [0, 1, 3, 0, 0, 16, 56, 7, 255]
theorem meta_Parse.tab8 : rtab .any (opsOf Try.f15 8) = meta_Parse.T8 := by kernel_rfl
theorem meta_Parse.bits8 : waitsOk meta_Parse.T8.2 meta_Parse.B8 = true := by kernel_rfl
set_option maxHeartbeats 8000000 in
set_option maxRecDepth 100000 in
theorem meta_Parse.calls (k : Nat) (a0 : ByteArray) (r1 : List (S36)) (r2 : Int) (r3 : Int) (w : World) (h : meta_Parse.f k a0 = some (r1, r2, r3)) :
    Calls Try.prog 15 #[.string a0] w fun e w' => ∃ v0_ : Value, e = .returned (.tuple #[v0_, .int .i64 r2, .int .i64 r3]) ∧ Kd.R k36 36 w' w.heap.size (fun _ => True) v0_ r1 ∧ Below w.heap.size w w' := by
  have hu36 := Try.underlying36
  have HB := Aside0.mk (Below.refl w.heap.size w)
  have H : (meta_Parse.l0 k a0 ([] : List (S36)) a0 false 0) = some (r1, r2, r3) := h
  clear h
  have H' := Aside0.mk H
  clear H
  go_enter Try.func15, Try.ntmps15
  go_wp2
  go_loopg [5, 6, 7, 8] k (fun kq v5 v6 v7 v8 w' => ∃ (x5_1 : List (S36)) (x6_1 : ByteArray) (x7_1 : Bool) (x8_1 : Int), v6 = .string x6_1 ∧ v7 = .bool x7_1 ∧ v8 = .int .i64 x8_1 ∧ Aside0 (meta_Parse.l0 kq a0 x5_1 x6_1 x7_1 x8_1 = some (r1, r2, r3)) ∧ Aside0 (kq ≤ k) ∧ Aside0 (Kd.R k36 36 w' w.heap.size (fun _ => True) v5 x5_1) ∧ Aside0 (Below w.heap.size w w'))
  case atStart => exact ⟨(([] : List (S36))), (a0), (false), (0), (by first | rfl | (simp; done) | (simp [*]; done)), (by first | rfl | (simp; done) | (simp [*]; done)), (by first | rfl | (simp; done) | (simp [*]; done)), H', ⟨Nat.le_refl _⟩, ⟨by first | exact Kd.R_nil _ _ _ _ _ | exact Kd.N_nil _ _ _ _ _ | exact Kd.V_nil _ _ _ _ _ | exact Kd.Q_nil _ _ _ _ _ | exact Kd.S_nil _ _ _ _ _⟩, ⟨by repeat (first | (with_reducible first | exact HB.out | apply below_alloc | apply pw_below_drewN | apply below_drew1) | exact HB.out)⟩⟩
  case round =>
    clear H'
    try clear c1
    obtain ⟨x5_1, x6_1, x7_1, x8_1, rfl, rfl, rfl, HA, HK1, HO_5, HB⟩ := hrel
    cases gk with
    | zero => exact absurd HA.out (by simp [meta_Parse.l0])
    | succ k1 =>
      have H := HA.out
      clear HA
      simp only [meta_Parse.l0] at H
      by_cases c2 : x7_1 = true
      · subst c2
        have H1 : (some (x5_1, wrap64 ((a0.size : Int) - (x6_1.size : Int)), 0)) = some (r1, r2, r3) := by rw [if_pos rfl] at H; exact H
        clear H
        have H := H1
        clear H1
        simp only [Option.some.injEq, Prod.mk.injEq] at H
        obtain ⟨rfl, rfl, rfl⟩ := H
        go_wp2
        go_ret3
        exact ⟨_, by first | rfl | (simp [errW_none, errW_some] <;> rfl) | (simp [*, errW_none, errW_some] <;> rfl), by (with_reducible repeat (first | apply Kd.R_alloc | apply Kd.R_drewN | apply Kd.R_drew)); exact HO_5.out, by repeat (first | (with_reducible first | exact HB.out | apply below_alloc | apply pw_below_drewN | apply below_drew1) | exact HB.out)⟩
      · replace c2 := Bool.eq_false_iff.mpr c2
        subst c2
        have H1 : (if (x6_1.size : Int) < 4 then (meta_Parse.j1 k1 a0 x5_1 x6_1 x8_1 true) else (if 1 ≤ 4 then (if 4 ≤ (x6_1.size : Int) then ((bytes_FromBe.f k1 (x6_1.extract 1 4)).bind fun t139 => (meta_Parse.j1 k1 a0 x5_1 x6_1 x8_1 (decide (t139 > (wrap64 ((x6_1.size : Int) - 4)))))) else (none)) else (none))) = some (r1, r2, r3) := by rw [if_neg (show ¬ (false = true) by decide)] at H; exact H
        clear H
        have H := H1
        clear H1
        have HC3 := Aside0.mk H
        clear H
        go_upto_region 4 with (fail)
        go_cut [26] (fun v26 wc => ∃ (kq : Nat) (x26_2 : Bool), v26 = .bool x26_2 ∧ Aside0 (meta_Parse.j1 kq a0 x5_1 x6_1 x8_1 x26_2 = some (r1, r2, r3)) ∧ Aside0 (kq ≤ k1) ∧ Aside0 (Kd.R k36 36 wc w.heap.size (fun _ => True) u5 x5_1) ∧ Aside0 (Below w.heap.size w wc))
        case first =>
          have H := HC3.out
          clear HC3
          by_cases c4 : (x6_1.size : Int) < 4
          · rw [if_pos c4] at H
            have c4b0 : decide ((x6_1.size : Int) < 4) = true := decide_eq_true c4
            have c4b1 : decide (x6_1.size < 4) = true := decide_eq_true (by omega)
            clear c4
            (first | rw [c4b0] | (simp only [i64_w, i32_w]; rw [c4b0]) | skip)
            have H' := Aside0.mk H
            clear H
            go_wp2
            go_meet
            case rel => exact ⟨_, (true), (by first | rfl | (simp; done) | (simp [*]; done)), H', ⟨by have := HK1.out; first | omega | exact Nat.le_refl _⟩, ⟨by (with_reducible repeat (first | apply Kd.R_alloc | apply Kd.R_drewN | apply Kd.R_drew)); exact HO_5.out⟩, ⟨by repeat (first | (with_reducible first | exact HB.out | apply below_alloc | apply pw_below_drewN | apply below_drew1) | exact HB.out)⟩⟩
          · rw [if_neg c4] at H
            have c4b0 : decide ((x6_1.size : Int) < 4) = false := decide_eq_false c4
            have c4b1 : decide (x6_1.size < 4) = false := decide_eq_false (by omega)
            clear c4
            (first | rw [c4b0] | (simp only [i64_w, i32_w]; rw [c4b0]) | skip)
            by_cases c5 : 1 ≤ 4
            · rw [if_pos c5] at H
              have c5b0 := eq_true c5
              have c5b1 : decide (1 ≤ 4) = true := decide_eq_true c5
              clear c5
              by_cases c6 : 4 ≤ (x6_1.size : Int)
              · rw [if_pos c6] at H
                have c6b0 := eq_true c6
                have c6b1 : decide (4 ≤ (x6_1.size : Int)) = true := decide_eq_true c6
                clear c6
                replace H := Option.bind_eq_some_iff.mp H
                obtain ⟨t139, A70, H⟩ := H
                replace H : (meta_Parse.j1 k1 a0 x5_1 x6_1 x8_1 (decide (t139 > (wrap64 ((x6_1.size : Int) - 4))))) = some (r1, r2, r3) := H
                have A7 := Aside0.mk A70
                clear A70
                have H' := Aside0.mk H
                clear H
                go_wp2_with (first | (go_at_call 34; (with_reducible refine (bytes_FromBe.calls k1 (x6_1.extract 1 4) t139 _ A7.out).mono ?_); rintro e w' ⟨rfl, ⟨nd, rfl⟩⟩))
                go_meet
                case rel => exact ⟨_, (decide (t139 > (wrap64 ((x6_1.size : Int) - 4)))), (by first | rfl | (simp; done) | (simp [*]; done)), H', ⟨by have := HK1.out; first | omega | exact Nat.le_refl _⟩, ⟨by (with_reducible repeat (first | apply Kd.R_alloc | apply Kd.R_drewN | apply Kd.R_drew)); exact HO_5.out⟩, ⟨by repeat (first | (with_reducible first | exact HB.out | apply below_alloc | apply pw_below_drewN | apply below_drew1) | exact HB.out)⟩⟩
              · rw [if_neg c6] at H
                exact absurd H (by simp)
            · rw [if_neg c5] at H
              exact absurd H (by simp)
        case rest =>
          clear HC3
          try clear c1
          try clear c2
          try clear p2
          try clear c4
          try clear c4b0
          try clear c4b1
          try clear c5
          try clear c5b0
          try clear c5b1
          try clear c6
          try clear c6b0
          try clear c6b1
          try clear p6
          obtain ⟨kq, x26_2, rfl, HA, HJ2, HO_5, HB⟩ := hcut
          cases kq with
          | zero => exact absurd HA.out (by simp [meta_Parse.j1])
          | succ kj2 =>
            have H := HA.out
            clear HA
            simp only [meta_Parse.j1] at H
            by_cases c8 : x26_2 = true
            · subst c8
              have H1 : (some (([] : List (S36)), 0, 2)) = some (r1, r2, r3) := by rw [if_pos rfl] at H; exact H
              clear H
              have H := H1
              clear H1
              simp only [Option.some.injEq, Prod.mk.injEq] at H
              obtain ⟨rfl, rfl, rfl⟩ := H
              go_wp2
              go_ret3
              exact ⟨_, by first | rfl | (simp [errW_none, errW_some] <;> rfl) | (simp [*, errW_none, errW_some] <;> rfl), by first | exact Kd.R_nil _ _ _ _ _ | exact Kd.N_nil _ _ _ _ _ | exact Kd.V_nil _ _ _ _ _ | exact Kd.Q_nil _ _ _ _ _ | exact Kd.S_nil _ _ _ _ _, by repeat (first | (with_reducible first | exact HB.out | apply below_alloc | apply pw_below_drewN | apply below_drew1) | exact HB.out)⟩
            · replace c8 := Bool.eq_false_iff.mpr c8
              subst c8
              have H1 : (if 1 ≤ 4 then (if 4 ≤ (x6_1.size : Int) then ((bytes_FromBe.f kj2 (x6_1.extract 1 4)).bind fun t140 => (if 0 < (x6_1.size : Int) then (if 4 ≤ (wrap64 (4 + t140)) then (if (wrap64 (4 + t140)) ≤ (x6_1.size : Int) then (if 0 ≤ (wrap64 (4 + t140)) then (if (wrap64 (Go.bits .and .u8 (bt x6_1 0) 127)) = 4 then (meta_Parse.j2 kj2 a0 x5_1 (x6_1.extract ((wrap64 (4 + t140)) : Int).toNat x6_1.size) (decide ((bt x6_1 0) > 127)) (wrap64 (x8_1 + 1)) (wrap64 (Go.bits .and .u8 (bt x6_1 0) 127)) (x6_1.extract 4 ((wrap64 (4 + t140)) : Int).toNat)) else (meta_Parse.j2 kj2 a0 x5_1 (x6_1.extract ((wrap64 (4 + t140)) : Int).toNat x6_1.size) (decide ((bt x6_1 0) > 127)) x8_1 (wrap64 (Go.bits .and .u8 (bt x6_1 0) 127)) (x6_1.extract 4 ((wrap64 (4 + t140)) : Int).toNat))) else (none)) else (none)) else (none)) else (none))) else (none)) else (none)) = some (r1, r2, r3) := by rw [if_neg (show ¬ (false = true) by decide)] at H; exact H
              clear H
              have H := H1
              clear H1
              by_cases c9 : 1 ≤ 4
              · rw [if_pos c9] at H
                have c9b0 := eq_true c9
                have c9b1 : decide (1 ≤ 4) = true := decide_eq_true c9
                clear c9
                by_cases c10 : 4 ≤ (x6_1.size : Int)
                · rw [if_pos c10] at H
                  have c10b0 := eq_true c10
                  have c10b1 : decide (4 ≤ (x6_1.size : Int)) = true := decide_eq_true c10
                  clear c10
                  replace H := Option.bind_eq_some_iff.mp H
                  obtain ⟨t140, A110, H⟩ := H
                  replace H : (if 0 < (x6_1.size : Int) then (if 4 ≤ (wrap64 (4 + t140)) then (if (wrap64 (4 + t140)) ≤ (x6_1.size : Int) then (if 0 ≤ (wrap64 (4 + t140)) then (if (wrap64 (Go.bits .and .u8 (bt x6_1 0) 127)) = 4 then (meta_Parse.j2 kj2 a0 x5_1 (x6_1.extract ((wrap64 (4 + t140)) : Int).toNat x6_1.size) (decide ((bt x6_1 0) > 127)) (wrap64 (x8_1 + 1)) (wrap64 (Go.bits .and .u8 (bt x6_1 0) 127)) (x6_1.extract 4 ((wrap64 (4 + t140)) : Int).toNat)) else (meta_Parse.j2 kj2 a0 x5_1 (x6_1.extract ((wrap64 (4 + t140)) : Int).toNat x6_1.size) (decide ((bt x6_1 0) > 127)) x8_1 (wrap64 (Go.bits .and .u8 (bt x6_1 0) 127)) (x6_1.extract 4 ((wrap64 (4 + t140)) : Int).toNat))) else (none)) else (none)) else (none)) else (none)) = some (r1, r2, r3) := H
                  have A11 := Aside0.mk A110
                  clear A110
                  by_cases c12 : 0 < (x6_1.size : Int)
                  · rw [if_pos c12] at H
                    have c12b0 : decide (0 < (x6_1.size : Int)) = true := decide_eq_true c12
                    have c12b1 : decide (0 < x6_1.size) = true := decide_eq_true (by omega)
                    clear c12
                    by_cases c14 : 4 ≤ (wrap64 (4 + t140))
                    · rw [if_pos c14] at H
                      have c14b0 := eq_true c14
                      have c14b1 : decide (4 ≤ (wrap64 (4 + t140))) = true := decide_eq_true c14
                      by_cases c15 : (wrap64 (4 + t140)) ≤ (x6_1.size : Int)
                      · rw [if_pos c15] at H
                        have c15b0 := eq_true c15
                        have c15b1 : decide ((wrap64 (4 + t140)) ≤ (x6_1.size : Int)) = true := decide_eq_true c15
                        obtain ⟨ji17, hji17⟩ : ∃ j_ : Int, (wrap64 (4 + t140)) = j_ := ⟨_, rfl⟩
                        replace H : (if 0 ≤ (ji17) then (if (wrap64 (Go.bits .and .u8 (bt x6_1 0) 127)) = 4 then (meta_Parse.j2 kj2 a0 x5_1 (x6_1.extract ((ji17) : Int).toNat x6_1.size) (decide ((bt x6_1 0) > 127)) (wrap64 (x8_1 + 1)) (wrap64 (Go.bits .and .u8 (bt x6_1 0) 127)) (x6_1.extract 4 ((ji17) : Int).toNat)) else (meta_Parse.j2 kj2 a0 x5_1 (x6_1.extract ((ji17) : Int).toNat x6_1.size) (decide ((bt x6_1 0) > 127)) x8_1 (wrap64 (Go.bits .and .u8 (bt x6_1 0) 127)) (x6_1.extract 4 ((ji17) : Int).toNat))) else (none)) = some (r1, r2, r3) := by first | (rw [hji17] at H; exact H) | (simp only [hji17] at H ⊢; exact H)
                        (try rw [hji17] at c14b0)
                        (try rw [hji17] at c14b1)
                        (try rw [hji17] at c14)
                        (try rw [hji17] at c15b0)
                        (try rw [hji17] at c15b1)
                        (try rw [hji17] at c15)
                        (try rw [hji17] at A11)
                        have hji17w : (IntKind.i64.wrap (4 + t140)) = ji17 := (i64_w _).trans hji17
                        by_cases c18 : 0 ≤ (ji17)
                        · rw [if_pos c18] at H
                          have c18b0 := eq_true c18
                          have c18b1 : decide (0 ≤ (ji17)) = true := decide_eq_true c18
                          clear c18
                          have c19b0 := eq_true (of_decide_eq_true (by first | (with_reducible assumption) | assumption) : (ji17) ≤ (x6_1.size : Int))
                          have HC20 := Aside0.mk H
                          clear H
                          try go_wp2_with (first | ((with_reducible refine gate_callee (f := 34) rfl ?_); refine goesL_ (some 29) rfl rfl Try.func34 (by kernel_rfl) rfl #[.string (x6_1.extract 1 4)] rfl (by (try simp only [List.map_toArray, List.map_cons, List.map_nil]); first | done | rfl | (simp only [List.length_drop, List.length_take]; rfl)) ?_; (with_reducible refine (bytes_FromBe.calls kj2 (x6_1.extract 1 4) t140 _ A11.out).mono ?_); rintro e w' ⟨rfl, ⟨nd, rfl⟩⟩; refine ⟨_, rfl, ?_⟩; (try (rw [drewN_self wc]; generalize hq_ : World.drewN wc _ = wc; have n0_ : Aside0 (Kd.R k36 36 wc w.heap.size (fun _ => True) u5 x5_1) := ⟨by rw [← hq_]; exact (by (with_reducible repeat (first | apply Kd.R_alloc | apply Kd.R_drewN | apply Kd.R_drew)); exact HO_5.out)⟩; have n1_ : Aside0 (Below w.heap.size w wc) := ⟨by rw [← hq_]; exact (by repeat (first | (with_reducible first | exact HB.out | apply below_alloc | apply pw_below_drewN | apply below_drew1) | exact HB.out))⟩; clear HO_5 HB hq_; have HO_5 := n0_; have HB := n1_; clear n0_ n1_))))
                          have n0_ := Aside0.mk (Kd.R_drew HO_5.out)
                          have n1_ := Aside0.mk (below_drew1 HB.out)
                          clear HO_5
                          clear HB
                          have HO_5 := n0_
                          have HB := n1_
                          clear n0_ n1_
                          have p13 : 0 ≤ (0 : Int) := (by omega)
                          have q13 : 0 < x6_1.size := (by have : (0 : Int) < (x6_1.size : Int) := of_decide_eq_true (by first | (with_reducible assumption) | assumption); omega)
                          have hx13 : ∀ h : 0 < x6_1.size, ((x6_1[0]'h).toNat : Int) = bt x6_1 0 := bt_at x6_1 0
                          clear p13
                          have qi13 : (0 < (x6_1.size : Int)) = True := eq_true (of_decide_eq_true (by first | (with_reducible assumption) | assumption))
                          replace q13 := eq_true q13
                          refine start_ (n := 11) (S := fun w' => True) (ds := []) #[false, false, false, false, false, false, false, false, false, false, false] (by kernel_rfl) rfl rfl trivial (fun hHeld => ?_); refine with_tabW meta_Parse.tab7 meta_Parse.bits7 (fun HT_ HW_ => ?_)
                          generalize wc.drew = w21 at HO_5 HB hHeld ⊢
                          refine pure_ (i := 0) (N := some 30) (v := ?_) (a' := ?_) #[true, false, false, false, false, false, false, false, false, false, false] rfl rfl (any_of HT_.out (by kernel_rfl)) (fun _ _ _ h => h) (Or.inl ⟨by rfl, ?_⟩) ?_ ?_
                          rotate_left
                          · intro w'
                            go_simp
                            with_reducible rfl
                          rotate_left
                          · simp only [Act.put, List.setIfInBounds_toArray, List.set_cons_zero, List.set_cons_succ, i64_w, i32_w]
                            rfl
                          refine pure_ (i := 4) (N := some 34) (v := ?_) (a' := ?_) #[true, false, false, false, true, false, false, false, false, false, false] rfl rfl (any_of HT_.out (by kernel_rfl)) (fun _ _ _ h => h) (Or.inl ⟨by rfl, ?_⟩) ?_ ?_
                          rotate_left
                          · intro w'
                            go_simp
                            with_reducible rfl
                          rotate_left
                          · simp only [Act.put, List.setIfInBounds_toArray, List.set_cons_zero, List.set_cons_succ, i64_w, i32_w]
                            rfl
                          refine pure_ (i := 5) (N := some 35) (v := ?_) (a' := ?_) #[true, false, false, false, true, true, false, false, false, false, false] rfl rfl (any_of HT_.out (by kernel_rfl)) (fun _ _ _ h => h) (Or.inl ⟨by rfl, ?_⟩) ?_ ?_
                          rotate_left
                          · intro w'
                            go_simp
                            with_reducible rfl
                          rotate_left
                          · simp only [Act.put, List.setIfInBounds_toArray, List.set_cons_zero, List.set_cons_succ, i64_w, i32_w]
                            rfl
                          refine pure_ (i := 6) (N := some 36) (v := ?_) (a' := ?_) #[true, false, false, false, true, true, true, false, false, false, false] rfl rfl (any_of HT_.out (by kernel_rfl)) (fun _ _ _ h => h) (Or.inl ⟨by rfl, ?_⟩) ?_ ?_
                          rotate_left
                          · intro w'
                            go_simp
                            with_reducible rfl
                          rotate_left
                          · simp only [Act.put, List.setIfInBounds_toArray, List.set_cons_zero, List.set_cons_succ, i64_w, i32_w]
                            rfl
                          refine pure_ (i := 7) (N := some 37) (v := ?_) (a' := ?_) #[true, false, false, false, true, true, true, true, false, false, false] rfl rfl (any_of HT_.out (by kernel_rfl)) (fun _ _ _ h => h) (Or.inl ⟨by rfl, ?_⟩) ?_ ?_
                          rotate_left
                          · intro w'
                            go_simp
                            with_reducible rfl
                          rotate_left
                          · simp only [Act.put, List.setIfInBounds_toArray, List.set_cons_zero, List.set_cons_succ, i64_w, i32_w]
                            rfl
                          refine take_ (i := 1) (N := some 31) (v := ?_) (a' := ?_) #[true, true, false, false, true, true, true, true, false, false, false] rfl rfl (take_ofW HT_.out HW_.out (by kernel_rfl)) (fun _ _ _ h => h) (Or.inl ⟨by rfl, ?_⟩) hHeld ?_ ?_
                          rotate_left
                          · intro w' _
                            go_simp
                            with_reducible rfl
                          rotate_left
                          · simp only [Act.put, List.setIfInBounds_toArray, List.set_cons_zero, List.set_cons_succ, i64_w, i32_w]
                            rfl
                          refine pure_ (i := 2) (N := some 32) (v := ?_) (a' := ?_) #[true, true, true, false, true, true, true, true, false, false, false] rfl rfl (any_of HT_.out (by kernel_rfl)) (fun _ _ _ h => h) (Or.inl ⟨by rfl, ?_⟩) ?_ ?_
                          rotate_left
                          · intro w'
                            go_simp
                            with_reducible rfl
                          rotate_left
                          · simp only [Act.put, List.setIfInBounds_toArray, List.set_cons_zero, List.set_cons_succ, i64_w, i32_w]
                            rfl
                          refine pure_ (i := 3) (N := some 33) (v := ?_) (a' := ?_) #[true, true, true, true, true, true, true, true, false, false, false] rfl rfl (any_of HT_.out (by kernel_rfl)) (fun _ _ _ h => h) (Or.inl ⟨by rfl, ?_⟩) ?_ ?_
                          rotate_left
                          · intro w'
                            go_simp
                            with_reducible rfl
                          rotate_left
                          · simp only [Act.put, List.setIfInBounds_toArray, List.set_cons_zero, List.set_cons_succ, i64_w, i32_w]
                            rfl
                          refine pure_ (i := 8) (N := some 38) (v := ?_) (a' := ?_) #[true, true, true, true, true, true, true, true, true, false, false] rfl rfl (any_of HT_.out (by kernel_rfl)) (fun _ _ _ h => h) (Or.inl ⟨by rfl, ?_⟩) ?_ ?_
                          rotate_left
                          · intro w'
                            go_simp
                            with_reducible rfl
                          rotate_left
                          · simp only [Act.put, List.setIfInBounds_toArray, List.set_cons_zero, List.set_cons_succ, i64_w, i32_w]
                            rfl
                          refine one_ (i := 9) (N := some 10) #[true, true, true, true, true, true, true, true, true, true, false] rfl rfl (one_of HT_.out (by kernel_rfl)) (by decide) (fun K hK => ?_)
                          refine box_step ?hg (N := 10) ?hd (cs := #[.int .i64 0, .string (⟨#[]⟩ : ByteArray)]) (t := 36) ?hr ?_; (case hd => rfl); (case hg => rfl); (case hr => first | (go_simp; done) | (go_simp; rfl))
                          intro gb141 hg w22 hbox hb
                          have n0_ := Aside0.mk (Kd.R_below (Kd.R_elderB (by (with_reducible repeat (first | apply Kd.R_alloc | apply Kd.R_drewN | apply Kd.R_drew)); exact HO_5.out) gb141 (Nat.le_of_eq hg.symm)) hb)
                          have n1_ := Aside0.mk (below_step (by repeat (first | (with_reducible first | exact HB.out | apply below_alloc | apply pw_below_drewN | apply below_drew1) | exact HB.out)) hb)
                          have n2_ := Aside0.mk (hbox)
                          have n3_ := Aside0.mk ((by rw [hg]; exact (below_size (by repeat (first | (with_reducible first | exact HB.out | apply below_alloc | apply pw_below_drewN | apply below_drew1) | exact HB.out))) : w.heap.size ≤ gb141))
                          have n4_ := Aside0.mk ((by rw [hg]; exact (below_size (by repeat (first | (with_reducible first | exact HB.out | apply below_alloc | apply pw_below_drewN | apply below_drew1) | exact HB.out))) : w.heap.size ≤ gb141))
                          clear HO_5
                          clear HB
                          have HO_5 := n0_
                          have HB := n1_
                          have BK141 := n2_
                          have GW141 := n3_
                          have GE141 := n4_
                          clear n0_ n1_ n2_ n3_ n4_
                          clear hb hbox hg
                          refine hK.out _ _ trivial (fun hHeld => ?_)
                          clear hK K
                          refine norm_ (a' := ?_) ?_ ?_
                          rotate_left
                          · show Act.put _ (some 10) _ = _
                            simp only [Act.put, List.setIfInBounds_toArray, List.set_cons_zero, List.set_cons_succ, i64_w, i32_w]
                            rfl
                          refine one_ (i := 10) (N := none) #[true, true, true, true, true, true, true, true, true, true, true] rfl rfl (one_of HT_.out (by kernel_rfl)) (by decide) (fun K hK => ?_)
                          have hs23 : w22.cell? ⟨gb141, 0, none⟩ = some (.int .i64 0) := (blk_cell BK141.out 0).trans rfl
                          have hfs23 := blk_frozen BK141.out 0
                          have hs24 : w22.cell? ⟨gb141, 1, none⟩ = some (.string (⟨#[]⟩ : ByteArray)) := (blk_cell BK141.out 1).trans rfl
                          have hfs24 := blk_frozen BK141.out 1
                          refine skip_ (w1 := ?_) (by rfl) rfl ?_ ?_
                          rotate_left
                          · go_simp
                            rfl
                          refine hK.out _ _ trivial (fun hHeld => ?_)
                          clear hK K
                          refine done_ (done_of HT_.out (by kernel_rfl)) ?_
                          try go_wp2
                          have n0_ : Aside0 (Kd.R k36 36 ((w22.setCell ⟨gb141, 0, none⟩ (.int .i64 (wrap64 (Go.bits .and .u8 (bt x6_1 0) 127)))).setCell ⟨gb141, 1, none⟩ (.string (x6_1.extract 4 ((ji17) : Int).toNat))) w.heap.size (fun k_ => k_ ≠ gb141) u5 x5_1) := ⟨by (with_reducible repeat (first | apply Kd.R_alloc | apply Kd.R_drewN | apply Kd.R_drew)); exact Kd.R_mono (Kd.R_far (p := ⟨gb141, 1, none⟩) (Kd.R_far (p := ⟨gb141, 0, none⟩) (Kd.R_mono HO_5.out (fun k_ hk => (⟨hk, hk.2⟩ : _ ∧ k_ ≠ gb141))) (fun _ hk => hk.2) (.int .i64 (wrap64 (Go.bits .and .u8 (bt x6_1 0) 127)))) (fun _ hk => hk.2) (.string (x6_1.extract 4 ((ji17) : Int).toNat))) (fun _ hk => hk.1.2)⟩
                          have n1_ : Aside0 (((w22.setCell ⟨gb141, 0, none⟩ (.int .i64 (wrap64 (Go.bits .and .u8 (bt x6_1 0) 127)))).setCell ⟨gb141, 1, none⟩ (.string (x6_1.extract 4 ((ji17) : Int).toNat))).heap[gb141]? = some (.cells #[.int .i64 (wrap64 (Go.bits .and .u8 (bt x6_1 0) 127)), .string (x6_1.extract 4 ((ji17) : Int).toNat)] 36 (0, 0))) := ⟨by (with_reducible repeat (first | refine blk_drewN ?_ _ | refine blk_drew ?_ | refine blk_alloc ?_ _)); refine blk_put (cs := #[.int .i64 (wrap64 (Go.bits .and .u8 (bt x6_1 0) 127)), .string (⟨#[]⟩ : ByteArray)]) ?_ 1 _ rfl; (with_reducible repeat (first | refine blk_drewN ?_ _ | refine blk_drew ?_ | refine blk_alloc ?_ _)); refine blk_put (cs := #[.int .i64 0, .string (⟨#[]⟩ : ByteArray)]) ?_ 0 _ rfl; (with_reducible repeat (first | refine blk_drewN ?_ _ | refine blk_drew ?_ | refine blk_alloc ?_ _)); exact BK141.out⟩
                          have n2_ : Aside0 (Below w.heap.size w ((w22.setCell ⟨gb141, 0, none⟩ (.int .i64 (wrap64 (Go.bits .and .u8 (bt x6_1 0) 127)))).setCell ⟨gb141, 1, none⟩ (.string (x6_1.extract 4 ((ji17) : Int).toNat)))) := ⟨by repeat (first | (with_reducible first | exact HB.out | apply below_alloc | apply pw_below_drewN | apply below_drew1 | refine below_set ?_ GE141.out) | exact HB.out)⟩
                          (try clear HO_5)
                          (try clear BK141)
                          (try clear HB)
                          generalize ((w22.setCell ⟨gb141, 0, none⟩ (.int .i64 (wrap64 (Go.bits .and .u8 (bt x6_1 0) 127)))).setCell ⟨gb141, 1, none⟩ (.string (x6_1.extract 4 ((ji17) : Int).toNat))) = w25 at n0_ n1_ n2_ ⊢
                          have HO_5 := n0_
                          have BK141 := n1_
                          have HB := n2_
                          clear n0_ n1_ n2_
                          have n0_ := Aside0.mk (Kd.R_drew HO_5.out)
                          have n1_ := Aside0.mk (blk_drew BK141.out)
                          have n2_ := Aside0.mk (below_drew1 HB.out)
                          clear HO_5
                          clear BK141
                          clear HB
                          have HO_5 := n0_
                          have BK141 := n1_
                          have HB := n2_
                          clear n0_ n1_ n2_
                          have p16 : 0 ≤ (0 : Int) := (by omega)
                          have q16 : 0 < x6_1.size := (by have : (0 : Int) < (x6_1.size : Int) := of_decide_eq_true (by first | (with_reducible assumption) | assumption); omega)
                          have hx16 : ∀ h : 0 < x6_1.size, ((x6_1[0]'h).toNat : Int) = bt x6_1 0 := bt_at x6_1 0
                          clear p16
                          have qi16 : (0 < (x6_1.size : Int)) = True := eq_true (of_decide_eq_true (by first | (with_reducible assumption) | assumption))
                          replace q16 := eq_true q16
                          refine start_ (n := 9) (S := fun w' => True) (ds := []) #[false, false, false, false, false, false, false, false, false] (by kernel_rfl) rfl rfl trivial (fun hHeld => ?_); refine with_tabW meta_Parse.tab8 meta_Parse.bits8 (fun HT_ HW_ => ?_)
                          generalize w25.drew = w26 at HO_5 BK141 HB hHeld ⊢
                          refine pure_ (i := 0) (N := some 39) (v := ?_) (a' := ?_) #[true, false, false, false, false, false, false, false, false] rfl rfl (any_of HT_.out (by kernel_rfl)) (fun _ _ _ h => h) (Or.inl ⟨by rfl, ?_⟩) ?_ ?_
                          rotate_left
                          · intro w'
                            go_simp
                            with_reducible rfl
                          rotate_left
                          · simp only [Act.put, List.setIfInBounds_toArray, List.set_cons_zero, List.set_cons_succ, i64_w, i32_w]
                            rfl
                          refine pure_ (i := 3) (N := some 42) (v := ?_) (a' := ?_) #[true, false, false, true, false, false, false, false, false] rfl rfl (any_of HT_.out (by kernel_rfl)) (fun _ _ _ h => h) (Or.inl ⟨by rfl, ?_⟩) ?_ ?_
                          rotate_left
                          · intro w'
                            go_simp
                            with_reducible rfl
                          rotate_left
                          · simp only [Act.put, List.setIfInBounds_toArray, List.set_cons_zero, List.set_cons_succ, i64_w, i32_w]
                            rfl
                          refine pure_ (i := 4) (N := some 43) (v := ?_) (a' := ?_) #[true, false, false, true, true, false, false, false, false] rfl rfl (any_of HT_.out (by kernel_rfl)) (fun _ _ _ h => h) (Or.inl ⟨by rfl, ?_⟩) ?_ ?_
                          rotate_left
                          · intro w'
                            go_simp
                            with_reducible rfl
                          rotate_left
                          · simp only [Act.put, List.setIfInBounds_toArray, List.set_cons_zero, List.set_cons_succ, i64_w, i32_w]
                            rfl
                          refine pure_ (i := 5) (N := some 44) (v := ?_) (a' := ?_) #[true, false, false, true, true, true, false, false, false] rfl rfl (any_of HT_.out (by kernel_rfl)) (fun _ _ _ h => h) (Or.inl ⟨by rfl, ?_⟩) ?_ ?_
                          rotate_left
                          · intro w'
                            go_simp
                            with_reducible rfl
                          rotate_left
                          · simp only [Act.put, List.setIfInBounds_toArray, List.set_cons_zero, List.set_cons_succ, i64_w, i32_w]
                            rfl
                          refine pure_ (i := 6) (N := some 45) (v := ?_) (a' := ?_) #[true, false, false, true, true, true, true, false, false] rfl rfl (any_of HT_.out (by kernel_rfl)) (fun _ _ _ h => h) (Or.inl ⟨by rfl, ?_⟩) ?_ ?_
                          rotate_left
                          · intro w'
                            go_simp
                            with_reducible rfl
                          rotate_left
                          · simp only [Act.put, List.setIfInBounds_toArray, List.set_cons_zero, List.set_cons_succ, i64_w, i32_w]
                            rfl
                          refine take_ (i := 1) (N := some 40) (v := ?_) (a' := ?_) #[true, true, false, true, true, true, true, false, false] rfl rfl (take_ofW HT_.out HW_.out (by kernel_rfl)) (fun _ _ _ h => h) (Or.inl ⟨by rfl, ?_⟩) hHeld ?_ ?_
                          rotate_left
                          · intro w' _
                            go_simp
                            with_reducible rfl
                          rotate_left
                          · simp only [Act.put, List.setIfInBounds_toArray, List.set_cons_zero, List.set_cons_succ, i64_w, i32_w]
                            rfl
                          refine pure_ (i := 2) (N := some 41) (v := ?_) (a' := ?_) #[true, true, true, true, true, true, true, false, false] rfl rfl (any_of HT_.out (by kernel_rfl)) (fun _ _ _ h => h) (Or.inl ⟨by rfl, ?_⟩) ?_ ?_
                          rotate_left
                          · intro w'
                            go_simp
                            with_reducible rfl
                          rotate_left
                          · simp only [Act.put, List.setIfInBounds_toArray, List.set_cons_zero, List.set_cons_succ, i64_w, i32_w]
                            rfl
                          refine pure_ (i := 7) (N := some 7) (v := ?_) (a' := ?_) #[true, true, true, true, true, true, true, true, false] rfl rfl (any_of HT_.out (by kernel_rfl)) (fun _ _ _ h => h) (Or.inl ⟨by rfl, ?_⟩) ?_ ?_
                          rotate_left
                          · intro w'
                            go_simp
                            with_reducible rfl
                          rotate_left
                          · simp only [Act.put, List.setIfInBounds_toArray, List.set_cons_zero, List.set_cons_succ, i64_w, i32_w]
                            rfl
                          refine pure_ (i := 8) (N := some 6) (v := ?_) (a' := ?_) #[true, true, true, true, true, true, true, true, true] rfl rfl (any_of HT_.out (by kernel_rfl)) (fun _ _ _ h => h) (Or.inl ⟨by rfl, ?_⟩) ?_ ?_
                          rotate_left
                          · intro w'
                            go_simp
                            with_reducible rfl
                          rotate_left
                          · simp only [Act.put, List.setIfInBounds_toArray, List.set_cons_zero, List.set_cons_succ, i64_w, i32_w]
                            rfl
                          refine done_ (done_of HT_.out (by kernel_rfl)) ?_
                          have hcz27_0 : w26.cell? ⟨gb141, 0, none⟩ = some (.int .i64 (wrap64 (Go.bits .and .u8 (bt x6_1 0) 127))) := (blk_cell BK141.out 0).trans rfl
                          have hcz27_1 : w26.cell? ⟨gb141, 1, none⟩ = some (.string (x6_1.extract 4 ((ji17) : Int).toNat)) := (blk_cell BK141.out 1).trans rfl
                          have hfz27_0 := blk_frozen BK141.out 0
                          have hfz27_1 := blk_frozen BK141.out 1
                          go_upto_if 48 with (fail)
                          go_cut [8] (fun v8 wc => ∃ (kq : Nat) (x8_19 : Int), v8 = .int .i64 x8_19 ∧ Aside0 (meta_Parse.j2 kq a0 x5_1 (x6_1.extract ((ji17) : Int).toNat x6_1.size) (decide ((bt x6_1 0) > 127)) x8_19 (wrap64 (Go.bits .and .u8 (bt x6_1 0) 127)) (x6_1.extract 4 ((ji17) : Int).toNat) = some (r1, r2, r3)) ∧ Aside0 (kq ≤ kj2) ∧ Aside0 (Kd.R k36 36 wc w.heap.size (fun k_ => k_ ≠ gb141) u5 x5_1) ∧ Aside0 (wc.heap[gb141]? = some (.cells #[.int .i64 (wrap64 (Go.bits .and .u8 (bt x6_1 0) 127)), .string (x6_1.extract 4 ((ji17) : Int).toNat)] 36 (0, 0))) ∧ Aside0 (Below w.heap.size w wc))
                          case first =>
                            have H := HC20.out
                            clear HC20
                            by_cases c28 : (wrap64 (Go.bits .and .u8 (bt x6_1 0) 127)) = 4
                            · rw [if_pos c28] at H
                              have c28b0 : ((wrap64 (Go.bits .and .u8 (bt x6_1 0) 127)) == 4) = true := beq_iff_eq.mpr c28
                              have c28b1 : ((wrap64 (Go.bits .and .u8 (bt x6_1 0) 127)) != 4) = false := bne_eq_false_iff_eq.mpr c28
                              clear c28
                              (first | rw [c28b0] | (simp only [i64_w, i32_w]; rw [c28b0]) | skip)
                              have H' := Aside0.mk H
                              clear H
                              go_wp2
                              go_meet
                              case rel => exact ⟨_, (wrap64 (x8_1 + 1)), (by first | rfl | (simp; done) | (simp [*]; done)), H', ⟨by have := HK1.out; have := HJ2.out; first | omega | exact Nat.le_refl _⟩, ⟨by (with_reducible repeat (first | apply Kd.R_alloc | apply Kd.R_drewN | apply Kd.R_drew)); exact HO_5.out⟩, ⟨by (with_reducible repeat (first | refine blk_drewN ?_ _ | refine blk_drew ?_ | refine blk_alloc ?_ _)); exact BK141.out⟩, ⟨by repeat (first | (with_reducible first | exact HB.out | apply below_alloc | apply pw_below_drewN | apply below_drew1 | refine below_set ?_ GE141.out) | exact HB.out)⟩⟩
                            · rw [if_neg c28] at H
                              have c28b0 : ((wrap64 (Go.bits .and .u8 (bt x6_1 0) 127)) == 4) = false := beq_eq_false_iff_ne.mpr c28
                              have c28b1 : ((wrap64 (Go.bits .and .u8 (bt x6_1 0) 127)) != 4) = true := bne_iff_ne.mpr c28
                              (first | rw [c28b0] | (simp only [i64_w, i32_w]; rw [c28b0]) | skip)
                              have H' := Aside0.mk H
                              clear H
                              go_wp2
                              go_meet
                              case rel => exact ⟨_, (x8_1), (by first | rfl | (simp; done) | (simp [*]; done)), H', ⟨by have := HK1.out; have := HJ2.out; first | omega | exact Nat.le_refl _⟩, ⟨by (with_reducible repeat (first | apply Kd.R_alloc | apply Kd.R_drewN | apply Kd.R_drew)); exact HO_5.out⟩, ⟨by (with_reducible repeat (first | refine blk_drewN ?_ _ | refine blk_drew ?_ | refine blk_alloc ?_ _)); exact BK141.out⟩, ⟨by repeat (first | (with_reducible first | exact HB.out | apply below_alloc | apply pw_below_drewN | apply below_drew1 | refine below_set ?_ GE141.out) | exact HB.out)⟩⟩
                          case rest =>
                            clear HC20
                            try clear c1
                            try clear p1
                            try clear q1
                            try clear hx1
                            try clear qi1
                            try clear c2
                            try clear p2
                            try clear c3
                            try clear c4
                            try clear c4b0
                            try clear c4b1
                            try clear c5
                            try clear c5b0
                            try clear c5b1
                            try clear c6
                            try clear c6b0
                            try clear c6b1
                            try clear p6
                            try clear c8
                            try clear c9
                            try clear c9b0
                            try clear c9b1
                            try clear c10
                            try clear c10b0
                            try clear c10b1
                            try clear c12
                            try clear c12b0
                            try clear c12b1
                            try clear p13
                            try clear q13
                            try clear hx13
                            try clear qi13
                            try clear c14
                            try clear c14b0
                            try clear c14b1
                            try clear c15
                            try clear c15b0
                            try clear c15b1
                            try clear p16
                            try clear q16
                            try clear hx16
                            try clear qi16
                            try clear c18
                            try clear c18b0
                            try clear c18b1
                            try clear c19
                            try clear c19b0
                            try clear c28
                            try clear c28b0
                            try clear c28b1
                            try clear hcz27_0
                            try clear hcz27_1
                            try clear hfz27_0
                            try clear hfz27_1
                            try clear p13
                            try clear p16
                            try clear p2
                            try clear p6
                            try clear q13
                            try clear q16
                            obtain ⟨kq, x8_19, rfl, HA, HJ19, HO_5, BK141, HB⟩ := hcut
                            cases kq with
                            | zero => exact absurd HA.out (by simp [meta_Parse.j2])
                            | succ kj19 =>
                              have H := HA.out
                              clear HA
                              simp only [meta_Parse.j2] at H
                              have HC29 := Aside0.mk H
                              clear H
                              go_upto_region 11 with (fail)
                              go_cut [66] (fun v66 wc => ∃ (kq : Nat) (x66_28 : Bool), v66 = .bool x66_28 ∧ Aside0 (meta_Parse.j3 kq a0 x5_1 (x6_1.extract ((ji17) : Int).toNat x6_1.size) (decide ((bt x6_1 0) > 127)) x8_19 x66_28 (wrap64 (Go.bits .and .u8 (bt x6_1 0) 127)) (x6_1.extract 4 ((ji17) : Int).toNat) = some (r1, r2, r3)) ∧ Aside0 (kq ≤ kj19) ∧ Aside0 (Kd.R k36 36 wc w.heap.size (fun k_ => k_ ≠ gb141) u5 x5_1) ∧ Aside0 (wc.heap[gb141]? = some (.cells #[.int .i64 (wrap64 (Go.bits .and .u8 (bt x6_1 0) 127)), .string (x6_1.extract 4 ((ji17) : Int).toNat)] 36 (0, 0))) ∧ Aside0 (Below w.heap.size w wc))
                              case first =>
                                have H := HC29.out
                                clear HC29
                                by_cases c30 : (wrap64 (Go.bits .and .u8 (bt x6_1 0) 127)) = 127
                                · rw [if_pos c30] at H
                                  have c30b0 : ((wrap64 (Go.bits .and .u8 (bt x6_1 0) 127)) == 127) = true := beq_iff_eq.mpr c30
                                  have c30b1 : ((wrap64 (Go.bits .and .u8 (bt x6_1 0) 127)) != 127) = false := bne_eq_false_iff_eq.mpr c30
                                  clear c30
                                  (first | rw [c30b0] | (simp only [i64_w, i32_w]; rw [c30b0]) | skip)
                                  have H' := Aside0.mk H
                                  clear H
                                  have hcz31_0 : wc.cell? ⟨gb141, 0, none⟩ = some (.int .i64 (wrap64 (Go.bits .and .u8 (bt x6_1 0) 127))) := (blk_cell BK141.out 0).trans rfl
                                  have hcz31_1 : wc.cell? ⟨gb141, 1, none⟩ = some (.string (x6_1.extract 4 ((ji17) : Int).toNat)) := (blk_cell BK141.out 1).trans rfl
                                  have hfz31_0 := blk_frozen BK141.out 0
                                  have hfz31_1 := blk_frozen BK141.out 1
                                  go_wp2
                                  go_meet
                                  case rel => exact ⟨_, (true), (by first | rfl | (simp; done) | (simp [*]; done)), H', ⟨by have := HK1.out; have := HJ2.out; have := HJ19.out; first | omega | exact Nat.le_refl _⟩, ⟨by (with_reducible repeat (first | apply Kd.R_alloc | apply Kd.R_drewN | apply Kd.R_drew)); exact HO_5.out⟩, ⟨by (with_reducible repeat (first | refine blk_drewN ?_ _ | refine blk_drew ?_ | refine blk_alloc ?_ _)); exact BK141.out⟩, ⟨by repeat (first | (with_reducible first | exact HB.out | apply below_alloc | apply pw_below_drewN | apply below_drew1 | refine below_set ?_ GE141.out) | exact HB.out)⟩⟩
                                · rw [if_neg c30] at H
                                  have c30b0 : ((wrap64 (Go.bits .and .u8 (bt x6_1 0) 127)) == 127) = false := beq_eq_false_iff_ne.mpr c30
                                  have c30b1 : ((wrap64 (Go.bits .and .u8 (bt x6_1 0) 127)) != 127) = true := bne_iff_ne.mpr c30
                                  (first | rw [c30b0] | (simp only [i64_w, i32_w]; rw [c30b0]) | skip)
                                  by_cases c32 : x8_19 = 2
                                  · rw [if_pos c32] at H
                                    have c32b0 : (x8_19 == 2) = true := beq_iff_eq.mpr c32
                                    have c32b1 : (x8_19 != 2) = false := bne_eq_false_iff_eq.mpr c32
                                    clear c32
                                    have H' := Aside0.mk H
                                    clear H
                                    have hcz33_0 : wc.cell? ⟨gb141, 0, none⟩ = some (.int .i64 (wrap64 (Go.bits .and .u8 (bt x6_1 0) 127))) := (blk_cell BK141.out 0).trans rfl
                                    have hcz33_1 : wc.cell? ⟨gb141, 1, none⟩ = some (.string (x6_1.extract 4 ((ji17) : Int).toNat)) := (blk_cell BK141.out 1).trans rfl
                                    have hfz33_0 := blk_frozen BK141.out 0
                                    have hfz33_1 := blk_frozen BK141.out 1
                                    go_wp2
                                    go_meet
                                    case rel => exact ⟨_, (true), (by first | rfl | (simp; done) | (simp [*]; done)), H', ⟨by have := HK1.out; have := HJ2.out; have := HJ19.out; first | omega | exact Nat.le_refl _⟩, ⟨by (with_reducible repeat (first | apply Kd.R_alloc | apply Kd.R_drewN | apply Kd.R_drew)); exact HO_5.out⟩, ⟨by (with_reducible repeat (first | refine blk_drewN ?_ _ | refine blk_drew ?_ | refine blk_alloc ?_ _)); exact BK141.out⟩, ⟨by repeat (first | (with_reducible first | exact HB.out | apply below_alloc | apply pw_below_drewN | apply below_drew1 | refine below_set ?_ GE141.out) | exact HB.out)⟩⟩
                                  · rw [if_neg c32] at H
                                    have c32b0 : (x8_19 == 2) = false := beq_eq_false_iff_ne.mpr c32
                                    have c32b1 : (x8_19 != 2) = true := bne_iff_ne.mpr c32
                                    have H' := Aside0.mk H
                                    clear H
                                    have hcz34_0 : wc.cell? ⟨gb141, 0, none⟩ = some (.int .i64 (wrap64 (Go.bits .and .u8 (bt x6_1 0) 127))) := (blk_cell BK141.out 0).trans rfl
                                    have hcz34_1 : wc.cell? ⟨gb141, 1, none⟩ = some (.string (x6_1.extract 4 ((ji17) : Int).toNat)) := (blk_cell BK141.out 1).trans rfl
                                    have hfz34_0 := blk_frozen BK141.out 0
                                    have hfz34_1 := blk_frozen BK141.out 1
                                    obtain ⟨Ao35, co35, eo35⟩ := Kd.R_slice HO_5.out
                                    subst eo35
                                    go_wp2
                                    go_meet
                                    case rel => exact ⟨_, ((((x5_1.length : Int) == 0) != ((wrap64 (Go.bits .and .u8 (bt x6_1 0) 127)) == 0))), (by first | rfl | (simp; done) | (simp [*]; done)), H', ⟨by have := HK1.out; have := HJ2.out; have := HJ19.out; first | omega | exact Nat.le_refl _⟩, ⟨by (with_reducible repeat (first | apply Kd.R_alloc | apply Kd.R_drewN | apply Kd.R_drew)); exact HO_5.out⟩, ⟨by (with_reducible repeat (first | refine blk_drewN ?_ _ | refine blk_drew ?_ | refine blk_alloc ?_ _)); exact BK141.out⟩, ⟨by repeat (first | (with_reducible first | exact HB.out | apply below_alloc | apply pw_below_drewN | apply below_drew1 | refine below_set ?_ GE141.out) | exact HB.out)⟩⟩
                              case rest =>
                                clear HC29
                                try clear c1
                                try clear p1
                                try clear q1
                                try clear hx1
                                try clear qi1
                                try clear c2
                                try clear p2
                                try clear c3
                                try clear c4
                                try clear c4b0
                                try clear c4b1
                                try clear c5
                                try clear c5b0
                                try clear c5b1
                                try clear c6
                                try clear c6b0
                                try clear c6b1
                                try clear p6
                                try clear c8
                                try clear c9
                                try clear c9b0
                                try clear c9b1
                                try clear c10
                                try clear c10b0
                                try clear c10b1
                                try clear c12
                                try clear c12b0
                                try clear c12b1
                                try clear p13
                                try clear q13
                                try clear hx13
                                try clear qi13
                                try clear c14
                                try clear c14b0
                                try clear c14b1
                                try clear c15
                                try clear c15b0
                                try clear c15b1
                                try clear p16
                                try clear q16
                                try clear hx16
                                try clear qi16
                                try clear c18
                                try clear c18b0
                                try clear c18b1
                                try clear c19
                                try clear c19b0
                                try clear c28
                                try clear c28b0
                                try clear c28b1
                                try clear c30
                                try clear c30b0
                                try clear c30b1
                                try clear c32
                                try clear c32b0
                                try clear c32b1
                                try clear c34
                                try clear hcz27_0
                                try clear hcz27_1
                                try clear hcz31_0
                                try clear hcz31_1
                                try clear hcz33_0
                                try clear hcz33_1
                                try clear hcz34_0
                                try clear hcz34_1
                                try clear hfz27_0
                                try clear hfz27_1
                                try clear hfz31_0
                                try clear hfz31_1
                                try clear hfz33_0
                                try clear hfz33_1
                                try clear hfz34_0
                                try clear hfz34_1
                                try clear p1
                                try clear p13
                                try clear p16
                                try clear p2
                                try clear p6
                                try clear q1
                                try clear q13
                                try clear q16
                                obtain ⟨kq, x66_28, rfl, HA, HJ28, HO_5, BK141, HB⟩ := hcut
                                cases kq with
                                | zero => exact absurd HA.out (by simp [meta_Parse.j3])
                                | succ kj28 =>
                                  have H := HA.out
                                  clear HA
                                  simp only [meta_Parse.j3] at H
                                  by_cases c36 : x66_28 = true
                                  · subst c36
                                    have H1 : (some (([] : List (S36)), 0, 2)) = some (r1, r2, r3) := by rw [if_pos rfl] at H; exact H
                                    clear H
                                    have H := H1
                                    clear H1
                                    simp only [Option.some.injEq, Prod.mk.injEq] at H
                                    obtain ⟨rfl, rfl, rfl⟩ := H
                                    go_wp2
                                    go_ret3
                                    exact ⟨_, by first | rfl | (simp [errW_none, errW_some] <;> rfl) | (simp only [← hji17]; first | rfl | (simp [errW_none, errW_some] <;> rfl)) | (simp [*, errW_none, errW_some] <;> rfl), by first | exact Kd.R_nil _ _ _ _ _ | exact Kd.N_nil _ _ _ _ _ | exact Kd.V_nil _ _ _ _ _ | exact Kd.Q_nil _ _ _ _ _ | exact Kd.S_nil _ _ _ _ _, by repeat (first | (with_reducible first | exact HB.out | apply below_alloc | apply pw_below_drewN | apply below_drew1 | refine below_set ?_ GE141.out) | exact HB.out)⟩
                                  · replace c36 := Bool.eq_false_iff.mpr c36
                                    subst c36
                                    have H1 : (if (x5_1.length : Int) = 1024 then (some (([] : List (S36)), 0, 5)) else ((meta_Check.f kj28 (wrap64 (Go.bits .and .u8 (bt x6_1 0) 127)) (x6_1.extract 4 ((ji17) : Int).toNat)).bind fun t142 => (if t142 = 0 then (if x5_1.length < 5864062014805 then (meta_Parse.l0 kj28 a0 (x5_1 ++ [(⟨(wrap64 (Go.bits .and .u8 (bt x6_1 0) 127)), (x6_1.extract 4 ((ji17) : Int).toNat)⟩ : S36)]) (x6_1.extract ((ji17) : Int).toNat x6_1.size) (decide ((bt x6_1 0) > 127)) x8_19) else (none)) else (some (([] : List (S36)), 0, t142))))) = some (r1, r2, r3) := by rw [if_neg (show ¬ (false = true) by decide)] at H; exact H
                                    clear H
                                    have H := H1
                                    clear H1
                                    by_cases c37 : (x5_1.length : Int) = 1024
                                    · rw [if_pos c37] at H
                                      have c37b0 : ((x5_1.length : Int) == 1024) = true := beq_iff_eq.mpr c37
                                      have c37b1 : ((x5_1.length : Int) != 1024) = false := bne_eq_false_iff_eq.mpr c37
                                      clear c37
                                      simp only [Option.some.injEq, Prod.mk.injEq] at H
                                      obtain ⟨rfl, rfl, rfl⟩ := H
                                      obtain ⟨Ao38, co38, eo38⟩ := Kd.R_slice HO_5.out
                                      subst eo38
                                      go_wp2
                                      go_ret3
                                      exact ⟨_, by first | rfl | (simp [errW_none, errW_some] <;> rfl) | (simp only [← hji17]; first | rfl | (simp [errW_none, errW_some] <;> rfl)) | (simp [*, errW_none, errW_some] <;> rfl), by first | exact Kd.R_nil _ _ _ _ _ | exact Kd.N_nil _ _ _ _ _ | exact Kd.V_nil _ _ _ _ _ | exact Kd.Q_nil _ _ _ _ _ | exact Kd.S_nil _ _ _ _ _, by repeat (first | (with_reducible first | exact HB.out | apply below_alloc | apply pw_below_drewN | apply below_drew1 | refine below_set ?_ GE141.out) | exact HB.out)⟩
                                    · rw [if_neg c37] at H
                                      have c37b0 : ((x5_1.length : Int) == 1024) = false := beq_eq_false_iff_ne.mpr c37
                                      have c37b1 : ((x5_1.length : Int) != 1024) = true := bne_iff_ne.mpr c37
                                      replace H := Option.bind_eq_some_iff.mp H
                                      obtain ⟨t142, A390, H⟩ := H
                                      replace H : (if t142 = 0 then (if x5_1.length < 5864062014805 then (meta_Parse.l0 kj28 a0 (x5_1 ++ [(⟨(wrap64 (Go.bits .and .u8 (bt x6_1 0) 127)), (x6_1.extract 4 ((ji17) : Int).toNat)⟩ : S36)]) (x6_1.extract ((ji17) : Int).toNat x6_1.size) (decide ((bt x6_1 0) > 127)) x8_19) else (none)) else (some (([] : List (S36)), 0, t142))) = some (r1, r2, r3) := H
                                      have A39 := Aside0.mk A390
                                      clear A390
                                      by_cases c40 : t142 = 0
                                      · rw [if_pos c40] at H
                                        have c40b0 : (t142 == 0) = true := beq_iff_eq.mpr c40
                                        have c40b1 : (t142 != 0) = false := bne_eq_false_iff_eq.mpr c40
                                        clear c40
                                        by_cases c41 : x5_1.length < 5864062014805
                                        · rw [if_pos c41] at H
                                          have LMc41 := Aside0.mk c41
                                          clear c41
                                          obtain ⟨y143, hy143⟩ : ∃ y_ : List (S36), y_ = (x5_1 ++ [(⟨(wrap64 (Go.bits .and .u8 (bt x6_1 0) 127)), (x6_1.extract 4 ((ji17) : Int).toNat)⟩ : S36)]) := ⟨_, rfl⟩
                                          replace H : (meta_Parse.l0 kj28 a0 y143 (x6_1.extract ((ji17) : Int).toNat x6_1.size) (decide ((bt x6_1 0) > 127)) x8_19) = some (r1, r2, r3) := by first | (rw [hy143]; with_reducible exact H) | (have H2_ := (Option.bind_some _ _).symm.trans H; rw [hy143]; with_reducible exact H2_) | (have H2_ := (Option.bind_some _ _).symm.trans H; with_reducible exact H2_) | with_reducible exact H | (rw [hy143]; exact H) | exact H
                                          have Ny143 := Aside0.mk hy143
                                          clear hy143
                                          have H' := Aside0.mk H
                                          clear H
                                          obtain ⟨Ao42, co42, eo42⟩ := Kd.R_slice HO_5.out
                                          subst eo42
                                          have hcz43_0 : wc.cell? ⟨gb141, 0, none⟩ = some (.int .i64 (wrap64 (Go.bits .and .u8 (bt x6_1 0) 127))) := (blk_cell BK141.out 0).trans rfl
                                          have hcz43_1 : wc.cell? ⟨gb141, 1, none⟩ = some (.string (x6_1.extract 4 ((ji17) : Int).toNat)) := (blk_cell BK141.out 1).trans rfl
                                          have hfz43_0 := blk_frozen BK141.out 0
                                          have hfz43_1 := blk_frozen BK141.out 1
                                          go_wp2_with (first | ((with_reducible refine gate_callee (f := 13) rfl ?_); refine goesL_ (some 71) rfl rfl Try.func13 (by kernel_rfl) rfl #[.agg #[.int .i64 (wrap64 (Go.bits .and .u8 (bt x6_1 0) 127)), .string (x6_1.extract 4 ((ji17) : Int).toNat)]] rfl (by (try simp only [List.map_toArray, List.map_cons, List.map_nil]); first | done | (simp only [hji17]; rfl) | rfl | (simp only [List.length_drop, List.length_take]; rfl)) ?_; (with_reducible refine (meta_Check.calls kj28 (wrap64 (Go.bits .and .u8 (bt x6_1 0) 127)) (x6_1.extract 4 ((ji17) : Int).toNat) t142 _ A39.out).mono ?_); rintro e w44 ⟨rfl, hb⟩; refine ⟨_, rfl, ?_⟩; have n0_ := Aside0.mk (Kd.R_below (by (with_reducible repeat (first | apply Kd.R_alloc | apply Kd.R_drewN | apply Kd.R_drew)); exact HO_5.out) hb); have n1_ := Aside0.mk (blk_below (g := gb141) (o := .cells #[.int .i64 (wrap64 (Go.bits .and .u8 (bt x6_1 0) 127)), .string (x6_1.extract 4 ((ji17) : Int).toNat)] 36 (0, 0)) (by (with_reducible repeat (first | refine blk_drewN ?_ _ | refine blk_drew ?_ | refine blk_alloc ?_ _)); exact BK141.out) hb); have n2_ := Aside0.mk (below_step (by repeat (first | (with_reducible first | exact HB.out | apply below_alloc | apply pw_below_drewN | apply below_drew1 | refine below_set ?_ GE141.out) | exact HB.out)) hb); clear HO_5; clear BK141; clear HB; have HO_5 := n0_; have BK141 := n1_; have HB := n2_; clear n0_ n1_ n2_; (try clear hb); (try clear hb2); (try clear hk); (try clear hi); have hcz45_0 : w44.cell? ⟨gb141, 0, none⟩ = some (.int .i64 (wrap64 (Go.bits .and .u8 (bt x6_1 0) 127))) := (blk_cell BK141.out 0).trans rfl; have hcz45_1 : w44.cell? ⟨gb141, 1, none⟩ = some (.string (x6_1.extract 4 ((ji17) : Int).toNat)) := (blk_cell BK141.out 1).trans rfl; have hfz45_0 := blk_frozen BK141.out 0; have hfz45_1 := blk_frozen BK141.out 1) | ((with_reducible refine gate_builtin (b := .append) (xs := #[.tmp 75, .tmp 77]) rfl ?_); (try (refine gate_guard (by rfl) ?_; dsimp only)); at_builtin; refine Kd.R_append k36 (w0 := w) w.heap.size rfl (.tmp 75) (.tmp 77) 40 36 (.agg #[(.int .i64 0), (.string ⟨#[]⟩)]) 24 rfl Try.underlying40 info36 rfl (by decide) (by omega) (.slice Ao42 x5_1.length co42) x5_1 (⟨(wrap64 (Go.bits .and .u8 (bt x6_1 0) 127)), (x6_1.extract 4 ((ji17) : Int).toNat)⟩ : S36) [.int .i64 (wrap64 (Go.bits .and .u8 (bt x6_1 0) 127)), .string (x6_1.extract 4 ((ji17) : Int).toNat)] (fun k_ => k_ ≠ gb141) (fun _ => False) rfl rfl ?aP (fun _ hk => hk.elim) ?aF ?aO ?aB ?aS ?aL ?_; (case aP => exact k36_mkM _ _ _ (⟨(wrap64 (Go.bits .and .u8 (bt x6_1 0) 127)), (x6_1.extract 4 ((ji17) : Int).toNat)⟩ : S36)); (case aB => exact (by repeat (first | (with_reducible first | exact HB.out | apply below_alloc | apply pw_below_drewN | apply below_drew1 | refine below_set ?_ GE141.out) | exact HB.out))); (case aF => exact (fun k_ hk => Kd.freshB (g := gb141) (o := .cells #[.int .i64 (wrap64 (Go.bits .and .u8 (bt x6_1 0) 127)), .string (x6_1.extract 4 ((ji17) : Int).toNat)] 36 (0, 0)) (by (with_reducible repeat (first | refine blk_drewN ?_ _ | refine blk_drew ?_ | refine blk_alloc ?_ _)); exact BK141.out) k_ hk)); (case aO => exact (by (with_reducible repeat (first | apply Kd.R_alloc | apply Kd.R_drewN | apply Kd.R_drew)); exact HO_5.out)); (case aS => exact (below_size (by repeat (first | (with_reducible first | exact HB.out | apply below_alloc | apply pw_below_drewN | apply below_drew1 | refine below_set ?_ GE141.out) | exact HB.out)))); (case aL => have := LMc41.out; omega); intro v144 w46 ho hb hg hat; rw [← Ny143.out] at ho; have n0_ := Aside0.mk (blk_grown (g := gb141) (o := .cells #[.int .i64 (wrap64 (Go.bits .and .u8 (bt x6_1 0) 127)), .string (x6_1.extract 4 ((ji17) : Int).toNat)] 36 (0, 0)) (by (with_reducible repeat (first | refine blk_drewN ?_ _ | refine blk_drew ?_ | refine blk_alloc ?_ _)); exact BK141.out) hg (Kd.R_away HO_5.out (fun _ hk => hk))); have n1_ := Aside0.mk (hb); have n2_ := Aside0.mk (ho); clear BK141; clear HB; clear HO_5; have BK141 := n0_; have HB := n1_; have HO145 := n2_; clear n0_ n1_ n2_; clear ho hb hg hat))
                                          go_roundg kj28
                                          case measure => have := HK1.out; have := HJ2.out; have := HJ19.out; have := HJ28.out; omega
                                          case rel => exact ⟨(y143), ((x6_1.extract ((ji17) : Int).toNat x6_1.size)), ((decide ((bt x6_1 0) > 127))), (x8_19), (by first | rfl | (simp; done) | (simp only [← hji17] <;> (first | rfl | simp)) | (simp [*]; done)), (by first | rfl | (simp; done) | (simp [*]; done)), (by first | rfl | (simp; done) | (simp [*]; done)), H', ⟨by have := HK1.out; have := HJ2.out; have := HJ19.out; have := HJ28.out; omega⟩, ⟨by (with_reducible repeat (first | apply Kd.R_alloc | apply Kd.R_drewN | apply Kd.R_drew)); exact Kd.R_mono HO145.out (fun _ hk => trivial)⟩, ⟨by repeat (first | (with_reducible first | exact HB.out | apply below_alloc | apply pw_below_drewN | apply below_drew1 | refine below_set ?_ GE141.out) | exact HB.out)⟩⟩
                                        · rw [if_neg c41] at H
                                          exact absurd H (by simp)
                                      · rw [if_neg c40] at H
                                        have c40b0 : (t142 == 0) = false := beq_eq_false_iff_ne.mpr c40
                                        have c40b1 : (t142 != 0) = true := bne_iff_ne.mpr c40
                                        simp only [Option.some.injEq, Prod.mk.injEq] at H
                                        obtain ⟨rfl, rfl, rfl⟩ := H
                                        obtain ⟨Ao47, co47, eo47⟩ := Kd.R_slice HO_5.out
                                        subst eo47
                                        have hcz48_0 : wc.cell? ⟨gb141, 0, none⟩ = some (.int .i64 (wrap64 (Go.bits .and .u8 (bt x6_1 0) 127))) := (blk_cell BK141.out 0).trans rfl
                                        have hcz48_1 : wc.cell? ⟨gb141, 1, none⟩ = some (.string (x6_1.extract 4 ((ji17) : Int).toNat)) := (blk_cell BK141.out 1).trans rfl
                                        have hfz48_0 := blk_frozen BK141.out 0
                                        have hfz48_1 := blk_frozen BK141.out 1
                                        go_wp2_with (first | ((with_reducible refine gate_callee (f := 13) rfl ?_); refine goesL_ (some 71) rfl rfl Try.func13 (by kernel_rfl) rfl #[.agg #[.int .i64 (wrap64 (Go.bits .and .u8 (bt x6_1 0) 127)), .string (x6_1.extract 4 ((ji17) : Int).toNat)]] rfl (by (try simp only [List.map_toArray, List.map_cons, List.map_nil]); first | done | (simp only [hji17]; rfl) | rfl | (simp only [List.length_drop, List.length_take]; rfl)) ?_; (with_reducible refine (meta_Check.calls kj28 (wrap64 (Go.bits .and .u8 (bt x6_1 0) 127)) (x6_1.extract 4 ((ji17) : Int).toNat) t142 _ A39.out).mono ?_); rintro e w49 ⟨rfl, hb⟩; refine ⟨_, rfl, ?_⟩; have n0_ := Aside0.mk (Kd.R_below (by (with_reducible repeat (first | apply Kd.R_alloc | apply Kd.R_drewN | apply Kd.R_drew)); exact HO_5.out) hb); have n1_ := Aside0.mk (blk_below (g := gb141) (o := .cells #[.int .i64 (wrap64 (Go.bits .and .u8 (bt x6_1 0) 127)), .string (x6_1.extract 4 ((ji17) : Int).toNat)] 36 (0, 0)) (by (with_reducible repeat (first | refine blk_drewN ?_ _ | refine blk_drew ?_ | refine blk_alloc ?_ _)); exact BK141.out) hb); have n2_ := Aside0.mk (below_step (by repeat (first | (with_reducible first | exact HB.out | apply below_alloc | apply pw_below_drewN | apply below_drew1 | refine below_set ?_ GE141.out) | exact HB.out)) hb); clear HO_5; clear BK141; clear HB; have HO_5 := n0_; have BK141 := n1_; have HB := n2_; clear n0_ n1_ n2_; (try clear hb); (try clear hb2); (try clear hk); (try clear hi)))
                                        go_ret3
                                        exact ⟨_, by first | rfl | (simp [errW_none, errW_some] <;> rfl) | (simp only [← hji17]; first | rfl | (simp [errW_none, errW_some] <;> rfl)) | (simp [*, errW_none, errW_some] <;> rfl), by first | exact Kd.R_nil _ _ _ _ _ | exact Kd.N_nil _ _ _ _ _ | exact Kd.V_nil _ _ _ _ _ | exact Kd.Q_nil _ _ _ _ _ | exact Kd.S_nil _ _ _ _ _, by repeat (first | (with_reducible first | exact HB.out | apply below_alloc | apply pw_below_drewN | apply below_drew1 | refine below_set ?_ GE141.out) | exact HB.out)⟩
                        · rw [if_neg c18] at H
                          exact absurd H (by simp)
                      · rw [if_neg c15] at H
                        exact absurd H (by simp)
                    · rw [if_neg c14] at H
                      exact absurd H (by simp)
                  · rw [if_neg c12] at H
                    exact absurd H (by simp)
                · rw [if_neg c10] at H
                  exact absurd H (by simp)
              · rw [if_neg c9] at H
                exact absurd H (by simp)

end Go.Proofs.Ytgihacaegmpggaa.R
