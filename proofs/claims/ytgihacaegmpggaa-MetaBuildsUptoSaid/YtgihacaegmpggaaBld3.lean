/- Texts of this claim's proof, laid behind each other by a program of ours, without what the proof does not reach: Printed by a program of ours (pp.sh), partly over contracts proved by hand; Printed by a program of ours (pp.sh), partly over contracts proved by hand; Printed by a program of ours (pp.sh), partly over contracts proved by hand; Numbers in bytes (layer 02's plain laws, over this layer's printed functions); The plain law of layer 13: which bodies may be (tracks, pictures) -/
import Derived.Test.YtgihacaegmpggaaBld1
import Derived.Test.YtgihacaegmpggaaBld2
import Derived.Test.YtgihacaegmpggaaBldWApart
import Derived.Test.YtgihacaegmpggaaBldWEqStruct
import Derived.Test.YtgihacaegmpggaaBldWFoot
import Derived.Test.YtgihacaegmpggaaBldWGuard
import Derived.Test.YtgihacaegmpggaaBldWInv
import Derived.Test.YtgihacaegmpggaaBldWKept
import Derived.Test.YtgihacaegmpggaaBldWLast
import Derived.Test.YtgihacaegmpggaaBldWMore
import Derived.Test.YtgihacaegmpggaaBldWN
import Derived.Test.YtgihacaegmpggaaBldWRepsOne
import Derived.Test.YtgihacaegmpggaaBldWShare
import Derived.Test.YtgihacaegmpggaaBldWTab
import Derived.Test.YtgihacaegmpggaaBldWWords
/- Printed by a program of ours (pp.sh), partly over contracts proved by hand. -/
namespace Go.Proofs.Ytgihacaegmpggaa.R
open Go.RowKit Go.Proofs.YtgihacaegmpggaaW.PrintWords Go.Proofs.YtgihacaegmpggaaW.PrintLast Go.Proofs.YtgihacaegmpggaaW.PrintMore
attribute [local go_sem] max2_int min2_int max_two min_two max_three min_three max_four min_four   -- for this text's walks alone
set_option linter.unusedVariables false
set_option linter.unusedSimpArgs false

theorem eqA36 (d : Nat) (w : World) (x0 y0 : Int) (x1 y1 : ByteArray) :
    (Op.equalIn (d + 2) 36 (.agg #[.int .i64 x0, .string x1]) (.agg #[.int .i64 y0, .string y1])).run Try.prog w = .ok (x0 == y0 && (x1.toList == y1.toList)) w := by
  refine eqA_of Try.underlying36 (by kernel_rfl) ?_
  refine eqf_cons (by rfl) (by go_simp; rfl) (by go_simp; rfl) (by go_simp) ?_
  exact eqf_last (by rfl) (by go_simp; rfl) (by go_simp; rfl) (by go_simp)
end Go.Proofs.Ytgihacaegmpggaa.R

/- Printed by a program of ours (pp.sh), partly over contracts proved by hand. -/
namespace Go.Proofs.Ytgihacaegmpggaa.R
open Go.RowKit Go.Proofs.YtgihacaegmpggaaW.PrintWords Go.Proofs.YtgihacaegmpggaaW.PrintLast Go.Proofs.YtgihacaegmpggaaW.PrintMore
attribute [local go_sem] max2_int min2_int max_two min_two max_three min_three max_four min_four   -- for this text's walks alone
set_option linter.unusedVariables false
set_option linter.unusedSimpArgs false

attribute [local go_sem high] eqA36
/-! ### lacquerref13_Same: function 17 -/
def lacquerref13_Same.l0 : Nat → List (S36) → List (S36) → Int → Option (Bool)
  | 0, _, _, _ => none
  | k + 1, x0, x1, x5 => if x5 < (x0.length : Int) then (if 0 ≤ x5 then (if x5 < (x1.length : Int) then (if (!(((rd_T36 x0 x5).f0) == ((rd_T36 x1 x5).f0)) || (!((((rd_T36 x0 x5).f1).toList) == (((rd_T36 x1 x5).f1).toList)))) = true then (some false) else (lacquerref13_Same.l0 k x0 x1 (wrap64 (x5 + 1)))) else (none)) else (none)) else (some true)
def lacquerref13_Same.f (k : Nat) (l0 : List (S36)) (l1 : List (S36)) : Option (Bool) := if (l0.length : Int) = (l1.length : Int) then (lacquerref13_Same.l0 k l0 l1 0) else (some false)
theorem lacquerref13_Same.mono_l : ∀ k, (∀ y0 y1 y2, LeO (lacquerref13_Same.l0 k y0 y1 y2) (lacquerref13_Same.l0 (k + 1) y0 y1 y2))
  | 0 => fun _ _ _ r h => by simp [lacquerref13_Same.l0] at h
  | k + 1 => by
    have ih0 := lacquerref13_Same.mono_l k
    · intro y0 y1 y2
      unfold lacquerref13_Same.l0
      repeat' first
      | (with_reducible exact ih0 _ _ _)
      | (with_reducible exact LeO.refl _)
      | (with_reducible exact LeO.none _)
      | (with_reducible refine LeO.ite ?_ ?_)
      | (with_reducible refine LeO.bind ?_ (fun _ => ?_))
      | exact ih0 _ _ _
      | exact LeO.none _
      | refine LeO.ite ?_ ?_
      | refine LeO.bind ?_ (fun _ => ?_)
theorem lacquerref13_Same.mono : ∀ a0 a1 k, LeO (lacquerref13_Same.f k a0 a1) (lacquerref13_Same.f (k + 1) a0 a1) := by
  intro a0 a1 k
  have ih0 := lacquerref13_Same.mono_l k
  unfold lacquerref13_Same.f
  repeat' first
      | (with_reducible exact ih0 _ _ _)
      | (with_reducible exact LeO.refl _)
      | (with_reducible exact LeO.none _)
      | (with_reducible refine LeO.ite ?_ ?_)
      | (with_reducible refine LeO.bind ?_ (fun _ => ?_))
      | exact ih0 _ _ _
      | exact LeO.none _
      | refine LeO.ite ?_ ?_
      | refine LeO.bind ?_ (fun _ => ?_)
set_option maxHeartbeats 8000000 in
set_option maxRecDepth 100000 in
theorem lacquerref13_Same.calls (k : Nat) (A0 : Option Addr) (c0 : Nat) (l0 : List (S36)) (A1 : Option Addr) (c1 : Nat) (l1 : List (S36)) (r : Bool) (w : World) (hr0 : Kd.C k36 w A0 l0.length l0) (hc0 : l0.length ≤ c0) (hr1 : Kd.C k36 w A1 l1.length l1) (hc1 : l1.length ≤ c1) (h : lacquerref13_Same.f k l0 l1 = some r) :
    Calls Try.prog 17 #[.slice A0 l0.length c0, .slice A1 l1.length c1] w fun e w' => e = .returned (.bool r) ∧ Drawn0 w w' := by
  have hu36 := Try.underlying36
  have HR0 := Aside0.mk hr0
  have HC0 := Aside0.mk hc0
  clear hr0 hc0
  have HR1 := Aside0.mk hr1
  have HC1 := Aside0.mk hc1
  clear hr1 hc1
  have H : (if (l0.length : Int) = (l1.length : Int) then (lacquerref13_Same.l0 k l0 l1 0) else (some false)) = some r := h
  clear h
  by_cases c3 : (l0.length : Int) = (l1.length : Int)
  · rw [if_pos c3] at H
    have c3b0 : ((l0.length : Int) == (l1.length : Int)) = true := beq_iff_eq.mpr c3
    have c3b1 : ((l0.length : Int) != (l1.length : Int)) = false := bne_eq_false_iff_eq.mpr c3
    have c3b2 : (l0.length == l1.length) = true := by first | simpa using c3 | (simp at c3 ⊢; omega)
    clear c3
    have H' := Aside0.mk H
    clear H
    go_enter Try.func17, Try.ntmps17
    go_wp2
    repeat (go_quiet (fail); try go_wp2)
    go_loopg [5] k (fun kq v5 w' => ∃ (x5_1 : Int), v5 = .int .i64 x5_1 ∧ Aside0 (lacquerref13_Same.l0 kq l0 l1 x5_1 = some r) ∧ Aside0 (kq ≤ k) ∧ Drawn0 w w')
    case atStart => exact ⟨(0), (by first | rfl | (simp; done) | (simp [*]; done)), H', ⟨Nat.le_refl _⟩, by repeat (first | exact Drawn0.refl _ | apply Drawn0.step)⟩
    case round =>
      clear H'
      try clear c1
      try clear p2
      try clear c3
      try clear c3b0
      try clear c3b1
      try clear c3b2
      obtain ⟨x5_1, rfl, HA, HK1, ⟨m1, rfl⟩⟩ := hrel
      cases gk with
      | zero => exact absurd HA.out (by simp [lacquerref13_Same.l0])
      | succ k1 =>
        have H := HA.out
        clear HA
        simp only [lacquerref13_Same.l0] at H
        by_cases c4 : x5_1 < (l0.length : Int)
        · rw [if_pos c4] at H
          have c4b0 : decide (x5_1 < (l0.length : Int)) = true := decide_eq_true c4
          clear c4
          by_cases c5 : 0 ≤ x5_1
          · rw [if_pos c5] at H
            have c5b0 : decide (0 ≤ x5_1) = true := decide_eq_true c5
            clear c5
            by_cases c6 : x5_1 < (l1.length : Int)
            · rw [if_pos c6] at H
              have c6b0 : decide (x5_1 < (l1.length : Int)) = true := decide_eq_true c6
              clear c6
              by_cases c7 : (!(((rd_T36 l0 x5_1).f0) == ((rd_T36 l1 x5_1).f0)) || (!((((rd_T36 l0 x5_1).f1).toList) == (((rd_T36 l1 x5_1).f1).toList)))) = true
              · rw [if_pos c7] at H
                have c7b0 : (!(((rd_T36 l0 x5_1).f0) == ((rd_T36 l1 x5_1).f0)) || (!((((rd_T36 l0 x5_1).f1).toList) == (((rd_T36 l1 x5_1).f1).toList)))) = true := c7
                clear c7
                obtain rfl := Option.some.inj H
                have p146 : 0 ≤ (x5_1 : Int) := of_decide_eq_true (by first | (with_reducible assumption) | assumption)
                have q146 : x5_1 < (l0.length : Int) := of_decide_eq_true (by first | (with_reducible assumption) | assumption)
                obtain ⟨ad146, e146, hx146_0, hx146_1⟩ := at_T36 HR0.out x5_1 p146 q146
                cases e146
                replace p146 := eq_true p146
                replace q146 := eq_true q146
                have p147 : 0 ≤ (x5_1 : Int) := of_decide_eq_true (by first | (with_reducible assumption) | assumption)
                have q147 : x5_1 < (l1.length : Int) := of_decide_eq_true (by first | (with_reducible assumption) | assumption)
                obtain ⟨ad147, e147, hx147_0, hx147_1⟩ := at_T36 HR1.out x5_1 p147 q147
                cases e147
                replace p147 := eq_true p147
                replace q147 := eq_true q147
                go_wp2
                repeat (go_quiet (fail); try go_wp2)
                go_ret
                exact ⟨by first | rfl | (simp; done) | (simp [*]; done), by repeat (first | exact Drawn0.refl _ | apply Drawn0.step)⟩
              · rw [if_neg c7] at H
                have c7b0 : (!(((rd_T36 l0 x5_1).f0) == ((rd_T36 l1 x5_1).f0)) || (!((((rd_T36 l0 x5_1).f1).toList) == (((rd_T36 l1 x5_1).f1).toList)))) = false := by simpa using c7
                clear c7
                have H' := Aside0.mk H
                clear H
                have p146 : 0 ≤ (x5_1 : Int) := of_decide_eq_true (by first | (with_reducible assumption) | assumption)
                have q146 : x5_1 < (l0.length : Int) := of_decide_eq_true (by first | (with_reducible assumption) | assumption)
                obtain ⟨ad146, e146, hx146_0, hx146_1⟩ := at_T36 HR0.out x5_1 p146 q146
                cases e146
                replace p146 := eq_true p146
                replace q146 := eq_true q146
                have p147 : 0 ≤ (x5_1 : Int) := of_decide_eq_true (by first | (with_reducible assumption) | assumption)
                have q147 : x5_1 < (l1.length : Int) := of_decide_eq_true (by first | (with_reducible assumption) | assumption)
                obtain ⟨ad147, e147, hx147_0, hx147_1⟩ := at_T36 HR1.out x5_1 p147 q147
                cases e147
                replace p147 := eq_true p147
                replace q147 := eq_true q147
                go_wp2
                repeat (go_quiet (fail); try go_wp2)
                go_roundg k1
                case measure => have := HK1.out; omega
                case rel => exact ⟨(wrap64 (x5_1 + 1)), (by first | rfl | (simp; done) | (simp [*]; done)), H', ⟨by have := HK1.out; omega⟩, by repeat (first | exact Drawn0.refl _ | apply Drawn0.step)⟩
            · rw [if_neg c6] at H
              exact absurd H (by simp)
          · rw [if_neg c5] at H
            exact absurd H (by simp)
        · rw [if_neg c4] at H
          have c4b0 : decide (x5_1 < (l0.length : Int)) = false := decide_eq_false c4
          clear c4
          obtain rfl := Option.some.inj H
          go_wp2
          repeat (go_quiet (fail); try go_wp2)
          go_ret
          exact ⟨by first | rfl | (simp; done) | (simp [*]; done), by repeat (first | exact Drawn0.refl _ | apply Drawn0.step)⟩
  · rw [if_neg c3] at H
    have c3b0 : ((l0.length : Int) == (l1.length : Int)) = false := beq_eq_false_iff_ne.mpr c3
    have c3b1 : ((l0.length : Int) != (l1.length : Int)) = true := bne_iff_ne.mpr c3
    have c3b2 : (l0.length == l1.length) = false := by first | simpa using c3 | (simp at c3 ⊢; omega)
    obtain rfl := Option.some.inj H
    go_enter Try.func17, Try.ntmps17
    go_wp2
    repeat (go_quiet (fail); try go_wp2)
    go_ret
    exact ⟨by first | rfl | (simp; done) | (simp [*]; done), by repeat (first | exact Drawn0.refl _ | apply Drawn0.step)⟩

/-! ### bytes_Le: function 47 -/
mutual
def bytes_Le.j0 : Nat → Int → Int → Bool → Option (ByteArray × Int)
  | 0, _, _, _ => none
  | k + 1, x0, x1, x28 => if x28 = true then (some ((⟨#[]⟩ : ByteArray), 11)) else (if 0 ≤ x1 then (if (x1 : Int).toNat ≤ 281474976710656 then (bytes_Le.l0 k x0 (List.replicate (x1 : Int).toNat 0) x1 0) else (none)) else (none))
def bytes_Le.l0 : Nat → Int → List Int → Int → Int → Option (ByteArray × Int)
  | 0, _, _, _, _ => none
  | k + 1, x0, x6, x31, x32 => if x32 < x31 then (if 0 ≤ (wrap64 (8 * x32)) then (if 0 ≤ x32 then (if x32 < (x6.length : Int) then (bytes_Le.l0 k x0 (x6.set (x32 : Int).toNat ((shr .i64 x0 (wrap64 (8 * x32))) % 256)) x31 (wrap64 (x32 + 1))) else (none)) else (none)) else (none)) else (some (strOfNums x6, 0))
end
def bytes_Le.f (k : Nat) (a0 : Int) (a1 : Int) : Option (ByteArray × Int) := if a1 < 1 then (bytes_Le.j0 k a0 a1 true) else (if a1 > 8 then (bytes_Le.j0 k a0 a1 true) else (if a0 < 0 then (bytes_Le.j0 k a0 a1 true) else (if a1 < 8 then (if 0 ≤ (wrap64 (8 * a1)) then (bytes_Le.j0 k a0 a1 (decide (a0 ≥ (shl .i64 1 (wrap64 (8 * a1)))))) else (none)) else (bytes_Le.j0 k a0 a1 false))))
theorem bytes_Le.mono_l : ∀ k, (∀ y0 y1 y2, LeO (bytes_Le.j0 k y0 y1 y2) (bytes_Le.j0 (k + 1) y0 y1 y2)) ∧ (∀ y0 y1 y2 y3, LeO (bytes_Le.l0 k y0 y1 y2 y3) (bytes_Le.l0 (k + 1) y0 y1 y2 y3))
  | 0 => ⟨fun _ _ _ r h => by simp [bytes_Le.j0] at h, fun _ _ _ _ r h => by simp [bytes_Le.l0] at h⟩
  | k + 1 => by
    obtain ⟨ih0, ih1⟩ := bytes_Le.mono_l k
    refine ⟨?_, ?_⟩
    · intro y0 y1 y2
      unfold bytes_Le.j0
      repeat' first
      | (with_reducible exact ih0 _ _ _)
      | (with_reducible exact ih1 _ _ _ _)
      | (with_reducible exact LeO.refl _)
      | (with_reducible exact LeO.none _)
      | (with_reducible refine LeO.ite ?_ ?_)
      | (with_reducible refine LeO.bind ?_ (fun _ => ?_))
      | exact ih0 _ _ _
      | exact ih1 _ _ _ _
      | exact LeO.none _
      | refine LeO.ite ?_ ?_
      | refine LeO.bind ?_ (fun _ => ?_)
    · intro y0 y1 y2 y3
      unfold bytes_Le.l0
      repeat' first
      | (with_reducible exact ih0 _ _ _)
      | (with_reducible exact ih1 _ _ _ _)
      | (with_reducible exact LeO.refl _)
      | (with_reducible exact LeO.none _)
      | (with_reducible refine LeO.ite ?_ ?_)
      | (with_reducible refine LeO.bind ?_ (fun _ => ?_))
      | exact ih0 _ _ _
      | exact ih1 _ _ _ _
      | exact LeO.none _
      | refine LeO.ite ?_ ?_
      | refine LeO.bind ?_ (fun _ => ?_)
theorem bytes_Le.mono : ∀ a0 a1 k, LeO (bytes_Le.f k a0 a1) (bytes_Le.f (k + 1) a0 a1) := by
  intro a0 a1 k
  obtain ⟨ih0, ih1⟩ := bytes_Le.mono_l k
  unfold bytes_Le.f
  repeat' first
      | (with_reducible exact ih0 _ _ _)
      | (with_reducible exact ih1 _ _ _ _)
      | (with_reducible exact LeO.refl _)
      | (with_reducible exact LeO.none _)
      | (with_reducible refine LeO.ite ?_ ?_)
      | (with_reducible refine LeO.bind ?_ (fun _ => ?_))
      | exact ih0 _ _ _
      | exact ih1 _ _ _ _
      | exact LeO.none _
      | refine LeO.ite ?_ ?_
      | refine LeO.bind ?_ (fun _ => ?_)
set_option maxHeartbeats 8000000 in
set_option maxRecDepth 100000 in
theorem bytes_Le.calls (k : Nat) (a0 : Int) (a1 : Int) (r1 : ByteArray) (r2 : Int) (w : World) (h : bytes_Le.f k a0 a1 = some (r1, r2)) :
    Calls Try.prog 47 #[.int .i64 a0, .int .i64 a1] w fun e w' => e = .returned (.tuple #[.string r1, .int .i64 r2]) ∧ Below w.heap.size w w' := by
  have HB := Aside0.mk (Below.refl w.heap.size w)
  have H : (if a1 < 1 then (bytes_Le.j0 k a0 a1 true) else (if a1 > 8 then (bytes_Le.j0 k a0 a1 true) else (if a0 < 0 then (bytes_Le.j0 k a0 a1 true) else (if a1 < 8 then (if 0 ≤ (wrap64 (8 * a1)) then (bytes_Le.j0 k a0 a1 (decide (a0 ≥ (shl .i64 1 (wrap64 (8 * a1)))))) else (none)) else (bytes_Le.j0 k a0 a1 false))))) = some (r1, r2) := h
  clear h
  have HC3 := Aside0.mk H
  clear H
  go_enter Try.func47, Try.ntmps47
  go_upto_region 1 with (fail)
  go_cut [28] (fun v28 wc => ∃ (kq : Nat) (x28_2 : Bool), v28 = .bool x28_2 ∧ Aside0 (bytes_Le.j0 kq a0 a1 x28_2 = some (r1, r2)) ∧ Aside0 (kq ≤ k) ∧ Aside0 (Below w.heap.size w wc))
  case first =>
    have H := HC3.out
    clear HC3
    by_cases c4 : a1 < 1
    · rw [if_pos c4] at H
      have c4b0 : decide (a1 < 1) = true := decide_eq_true c4
      clear c4
      (first | rw [c4b0] | (simp only [i64_w, i32_w]; rw [c4b0]) | skip)
      have H' := Aside0.mk H
      clear H
      go_wp2
      go_meet
      case rel => exact ⟨_, (true), (by first | rfl | (simp; done) | (simp [*]; done)), H', ⟨by first | omega | exact Nat.le_refl _⟩, ⟨by repeat (first | (with_reducible first | exact HB.out | apply below_alloc | apply pw_below_drewN | apply below_drew1) | exact HB.out)⟩⟩
    · rw [if_neg c4] at H
      have c4b0 : decide (a1 < 1) = false := decide_eq_false c4
      clear c4
      (first | rw [c4b0] | (simp only [i64_w, i32_w]; rw [c4b0]) | skip)
      by_cases c5 : a1 > 8
      · rw [if_pos c5] at H
        have c5b0 : decide (8 < a1) = true := decide_eq_true c5
        clear c5
        have H' := Aside0.mk H
        clear H
        go_wp2
        go_meet
        case rel => exact ⟨_, (true), (by first | rfl | (simp; done) | (simp [*]; done)), H', ⟨by first | omega | exact Nat.le_refl _⟩, ⟨by repeat (first | (with_reducible first | exact HB.out | apply below_alloc | apply pw_below_drewN | apply below_drew1) | exact HB.out)⟩⟩
      · rw [if_neg c5] at H
        have c5b0 : decide (8 < a1) = false := decide_eq_false c5
        clear c5
        by_cases c6 : a0 < 0
        · rw [if_pos c6] at H
          have c6b0 : decide (a0 < 0) = true := decide_eq_true c6
          clear c6
          have H' := Aside0.mk H
          clear H
          go_wp2
          go_meet
          case rel => exact ⟨_, (true), (by first | rfl | (simp; done) | (simp [*]; done)), H', ⟨by first | omega | exact Nat.le_refl _⟩, ⟨by repeat (first | (with_reducible first | exact HB.out | apply below_alloc | apply pw_below_drewN | apply below_drew1) | exact HB.out)⟩⟩
        · rw [if_neg c6] at H
          have c6b0 : decide (a0 < 0) = false := decide_eq_false c6
          clear c6
          by_cases c7 : a1 < 8
          · rw [if_pos c7] at H
            have c7b0 : decide (a1 < 8) = true := decide_eq_true c7
            clear c7
            obtain ⟨ji8, hji8⟩ : ∃ j_ : Int, (wrap64 (8 * a1)) = j_ := ⟨_, rfl⟩
            replace H : (if 0 ≤ (ji8) then (bytes_Le.j0 k a0 a1 (decide (a0 ≥ (shl .i64 1 (ji8))))) else (none)) = some (r1, r2) := by first | (rw [hji8] at H; exact H) | (simp only [hji8] at H ⊢; exact H)
            have hji8w : (IntKind.i64.wrap (8 * a1)) = ji8 := (i64_w _).trans hji8
            by_cases c9 : 0 ≤ (ji8)
            · rw [if_pos c9] at H
              have c9b0 := eq_true c9
              have c9b1 : decide (0 ≤ (ji8)) = true := decide_eq_true c9
              clear c9
              obtain ⟨ji10, hji10⟩ : ∃ j_ : Int, (shl .i64 1 (ji8)) = j_ := ⟨_, rfl⟩
              replace H : (bytes_Le.j0 k a0 a1 (decide (a0 ≥ (ji10)))) = some (r1, r2) := by first | (rw [hji10] at H; exact H) | (simp only [hji10] at H ⊢; exact H)
              have hji10_ : (IntKind.i64.wrap (1 * 2 ^ min (ji8).toNat 64)) = ji10 := hji10
              have hji10z : (ji8) ≤ 64 → (IntKind.i64.wrap (1 * 2 ^ (ji8).toNat)) = ji10 := shl_small hji10
              have hji10u : (IntKind.i64.wrap (2 ^ min (ji8).toNat 64)) = ji10 := by have h_ := hji10_; rw [Int.one_mul] at h_; exact h_
              have hji10v : (ji8) ≤ 64 → (IntKind.i64.wrap (2 ^ (ji8).toNat)) = ji10 := fun hle_ => by have h_ := hji10z hle_; rw [Int.one_mul] at h_; exact h_
              have hji10y : (wrap64 (1 * 2 ^ min (ji8).toNat 64)) = ji10 := (i64_w _).symm.trans hji10_
              have hji10x : (ji8) ≤ 64 → (wrap64 (1 * 2 ^ (ji8).toNat)) = ji10 := fun h_ => (i64_w _).symm.trans (hji10z h_)
              have H' := Aside0.mk H
              clear H
              go_wp2
              go_meet
              case rel => exact ⟨_, (decide (a0 ≥ (ji10))), (by first | rfl | (simp; done) | (simp only [← hji10] <;> (first | rfl | simp)) | (simp [*]; done)), H', ⟨by first | omega | exact Nat.le_refl _⟩, ⟨by repeat (first | (with_reducible first | exact HB.out | apply below_alloc | apply pw_below_drewN | apply below_drew1) | exact HB.out)⟩⟩
            · rw [if_neg c9] at H
              exact absurd H (by simp)
          · rw [if_neg c7] at H
            have c7b0 : decide (a1 < 8) = false := decide_eq_false c7
            clear c7
            have H' := Aside0.mk H
            clear H
            go_wp2
            go_meet
            case rel => exact ⟨_, (false), (by first | rfl | (simp; done) | (simp [*]; done)), H', ⟨by first | omega | exact Nat.le_refl _⟩, ⟨by repeat (first | (with_reducible first | exact HB.out | apply below_alloc | apply pw_below_drewN | apply below_drew1) | exact HB.out)⟩⟩
  case rest =>
    clear HC3
    try clear p2
    try clear c4
    try clear c4b0
    try clear c5
    try clear c5b0
    try clear c6
    try clear c6b0
    try clear p6
    try clear c7
    try clear c7b0
    try clear c9
    try clear c9b0
    try clear c9b1
    obtain ⟨kq, x28_2, rfl, HA, HJ2, HB⟩ := hcut
    cases kq with
    | zero => exact absurd HA.out (by simp [bytes_Le.j0])
    | succ kj2 =>
      have H := HA.out
      clear HA
      simp only [bytes_Le.j0] at H
      by_cases c11 : x28_2 = true
      · subst c11
        have H1 : (some ((⟨#[]⟩ : ByteArray), 11)) = some (r1, r2) := by rw [if_pos rfl] at H; exact H
        clear H
        have H := H1
        clear H1
        simp only [Option.some.injEq, Prod.mk.injEq] at H
        obtain ⟨rfl, rfl⟩ := H
        go_wp2
        go_ret2
        exact ⟨by first | rfl | (simp [errW_none, errW_some] <;> rfl) | (simp [*, errW_none, errW_some] <;> rfl), by repeat (first | (with_reducible first | exact HB.out | apply below_alloc | apply pw_below_drewN | apply below_drew1) | exact HB.out)⟩
      · replace c11 := Bool.eq_false_iff.mpr c11
        subst c11
        have H1 : (if 0 ≤ a1 then (if (a1 : Int).toNat ≤ 281474976710656 then (bytes_Le.l0 kj2 a0 (List.replicate (a1 : Int).toNat 0) a1 0) else (none)) else (none)) = some (r1, r2) := by rw [if_neg (show ¬ (false = true) by decide)] at H; exact H
        clear H
        have H := H1
        clear H1
        by_cases c12 : 0 ≤ a1
        · rw [if_pos c12] at H
          have c12b0 := eq_true c12
          have c12b1 : decide (0 ≤ a1) = true := decide_eq_true c12
          clear c12
          by_cases c13 : (a1 : Int).toNat ≤ 281474976710656
          · rw [if_pos c13] at H
            have c13b0 := eq_true c13
            have c13b1 : decide ((a1 : Int).toNat ≤ 281474976710656) = true := decide_eq_true c13
            clear c13
            obtain ⟨y148, hy148⟩ : ∃ y_ : List Int, y_ = (List.replicate (a1 : Int).toNat 0) := ⟨_, rfl⟩
            replace H : (bytes_Le.l0 kj2 a0 y148 a1 0) = some (r1, r2) := by first | (rw [hy148]; with_reducible exact H) | (have H2_ := (Option.bind_some _ _).symm.trans H; rw [hy148]; with_reducible exact H2_) | (have H2_ := (Option.bind_some _ _).symm.trans H; with_reducible exact H2_) | with_reducible exact H | (rw [hy148]; exact H) | exact H
            have Ny148 := Aside0.mk hy148
            clear hy148
            have H' := Aside0.mk H
            clear H
            go_wp2_with (first | ((with_reducible refine gate_dst (N := 30) rfl ?_); refine Kd.R_make (Kd.int .u8) _ 5 rfl (N := 30) rfl 68 _ _ rfl a1 rfl rfl Try.underlying68 (.int .u8 0) 1 info5 rfl (by decide) (by omega) 0 (ok := fun _ => True) (okp := fun _ => True) rfl (fun _ hk => hk) trivial (of_decide_eq_true (by first | (with_reducible assumption) | assumption)) (Nat.le_trans (Nat.mul_le_mul_right _ (of_decide_eq_true (by first | (with_reducible assumption) | assumption) : a1.toNat ≤ 281474976710656)) (by omega)) (Below.refl _ _) (Nat.le_refl _) ?_; intro v149 w14 ho15 hb hg_ hnew_; clear hg_ hnew_; (first | rw [← Ny148.out] at ho15 | (simp only [Int.reduceToNat] at ho15; rw [← Ny148.out] at ho15)); have n0_ := Aside0.mk (Kd.R_lower ho15 (below_size (by repeat (first | (with_reducible first | exact HB.out | apply below_alloc | apply pw_below_drewN | apply below_drew1) | exact HB.out)))); have n1_ := Aside0.mk (below_step (by repeat (first | (with_reducible first | exact HB.out | apply below_alloc | apply pw_below_drewN | apply below_drew1) | exact HB.out)) hb); clear HB; have HO150 := n0_; have HB := n1_; clear n0_ n1_; clear hb ho15))
            go_loopg [32] kj2 (fun kq v32 w' => ∃ (x6_2 : List Int) (x32_2 : Int), v32 = .int .i64 x32_2 ∧ Aside0 (bytes_Le.l0 kq a0 x6_2 a1 x32_2 = some (r1, r2)) ∧ Aside0 (kq ≤ kj2) ∧ Aside0 (Kd.R (Kd.int .u8) 5 w' w.heap.size (fun _ => True) v149 x6_2) ∧ Aside0 (Below w.heap.size w w'))
            case atStart => exact ⟨(y148), (0), (by first | rfl | (simp; done) | (simp [*]; done)), H', ⟨Nat.le_refl _⟩, ⟨by (with_reducible repeat (first | apply Kd.R_alloc | apply Kd.R_drewN | apply Kd.R_drew)); exact HO150.out⟩, ⟨by repeat (first | (with_reducible first | exact HB.out | apply below_alloc | apply pw_below_drewN | apply below_drew1) | exact HB.out)⟩⟩
            case round =>
              clear H'
              try clear c1
              try clear p2
              try clear c4
              try clear c4b0
              try clear c5
              try clear c5b0
              try clear c6
              try clear c6b0
              try clear p6
              try clear c7
              try clear c7b0
              try clear c9
              try clear c9b0
              try clear c9b1
              try clear c11
              try clear c12
              try clear c12b0
              try clear c12b1
              try clear c13
              try clear c13b0
              try clear c13b1
              try clear p2
              try clear p6
              obtain ⟨x6_2, x32_2, rfl, HA, HK2, HO_6, HB⟩ := hrel
              cases gk with
              | zero => exact absurd HA.out (by simp [bytes_Le.l0])
              | succ k2 =>
                have H := HA.out
                clear HA
                simp only [bytes_Le.l0] at H
                by_cases c16 : x32_2 < a1
                · rw [if_pos c16] at H
                  have c16b0 : decide (x32_2 < a1) = true := decide_eq_true c16
                  clear c16
                  obtain ⟨ji17, hji17⟩ : ∃ j_ : Int, (wrap64 (8 * x32_2)) = j_ := ⟨_, rfl⟩
                  replace H : (if 0 ≤ (ji17) then (if 0 ≤ x32_2 then (if x32_2 < (x6_2.length : Int) then (bytes_Le.l0 k2 a0 (x6_2.set (x32_2 : Int).toNat ((shr .i64 a0 (ji17)) % 256)) a1 (wrap64 (x32_2 + 1))) else (none)) else (none)) else (none)) = some (r1, r2) := by first | (rw [hji17] at H; exact H) | (simp only [hji17] at H ⊢; exact H)
                  have hji17w : (IntKind.i64.wrap (8 * x32_2)) = ji17 := (i64_w _).trans hji17
                  by_cases c18 : 0 ≤ (ji17)
                  · rw [if_pos c18] at H
                    have c18b0 := eq_true c18
                    have c18b1 : decide (0 ≤ (ji17)) = true := decide_eq_true c18
                    clear c18
                    obtain ⟨ji19, hji19⟩ : ∃ j_ : Int, (shr .i64 a0 (ji17)) = j_ := ⟨_, rfl⟩
                    replace H : (if 0 ≤ x32_2 then (if x32_2 < (x6_2.length : Int) then (bytes_Le.l0 k2 a0 (x6_2.set (x32_2 : Int).toNat ((ji19) % 256)) a1 (wrap64 (x32_2 + 1))) else (none)) else (none)) = some (r1, r2) := by first | (rw [hji19] at H; exact H) | (simp only [hji19] at H ⊢; exact H)
                    have hji19_ : (a0 / 2 ^ min (ji17).toNat 64) = ji19 := hji19
                    have hji19z : (ji17) ≤ 64 → (a0 / 2 ^ (ji17).toNat) = ji19 := shr_small hji19
                    by_cases c20 : 0 ≤ x32_2
                    · rw [if_pos c20] at H
                      have c20b0 : decide (0 ≤ x32_2) = true := decide_eq_true c20
                      clear c20
                      by_cases c21 : x32_2 < (x6_2.length : Int)
                      · rw [if_pos c21] at H
                        have c21b0 : decide (x32_2 < (x6_2.length : Int)) = true := decide_eq_true c21
                        clear c21
                        obtain ⟨y151, hy151⟩ : ∃ y_ : List Int, y_ = (x6_2.set (x32_2 : Int).toNat ((ji19) % 256)) := ⟨_, rfl⟩
                        replace H : (bytes_Le.l0 k2 a0 y151 a1 (wrap64 (x32_2 + 1))) = some (r1, r2) := by first | (rw [hy151]; with_reducible exact H) | (have H2_ := (Option.bind_some _ _).symm.trans H; rw [hy151]; with_reducible exact H2_) | (have H2_ := (Option.bind_some _ _).symm.trans H; with_reducible exact H2_) | with_reducible exact H | (rw [hy151]; exact H) | exact H
                        have Ny151 := Aside0.mk hy151
                        clear hy151
                        have H' := Aside0.mk H
                        clear H
                        have p22 : 0 ≤ (x32_2 : Int) := of_decide_eq_true (by first | (with_reducible assumption) | assumption)
                        have q22 : (x32_2 : Int) < ((x6_2.length : Int) : Int) := of_decide_eq_true (by first | (with_reducible assumption) | assumption)
                        obtain ⟨go22, co22, eo22, gb22, gl22, cl22, HG22⟩ := Kd.R_form HO_6.out (by omega)
                        (first | cases eo22 | (injection eo22 with ea_ en_ ec_; (first | subst ea_ | (injection ea_ with ea_; subst ea_)); subst ec_; clear en_))
                        have GB22 := Aside0.mk gb22
                        have GG22 := Aside0.mk HG22
                        clear gb22 gl22 HG22
                        obtain ⟨hx22_0, hf22_0⟩ := Kd.R_celln 0 HO_6.out (x32_2 : Int) p22 q22
                        replace p22 := eq_true p22
                        replace q22 := eq_true q22
                        have HP23 := Kd.R_putg HO_6.out (x32_2 : Int) ((ji19) % 256)
                        go_wp2_with (first | ((with_reducible refine gate_store (t := 5) (p := 42) rfl ?_); refine store_event (t := 5) (p := 42) (v := ?vo_w24) (w1 := (wr.setCell ⟨go22, (x32_2 : Int).toNat, none⟩ (.int .u8 ((ji19) % 256)))) ?hg ?ho ?hn ?hr ?_; (case ho => rfl); (case hg => rfl); (case hn => rfl); (case hr => first | (go_simp; done) | (go_simp; rfl)); intro w24 hw; have hg : wr.grownBy w24 (some go22) := (by rw [hw]; exact HP23.2); have hp_ : Kd.R (Kd.int .u8) 5 w24 w.heap.size (fun _ => True) (.slice (some ⟨go22, 0, none⟩) x6_2.length co22) y151 := (by rw [hw, Ny151.out]; exact HP23.1); clear HP23; have n0_ := Aside0.mk (hp_); have n1_ := Aside0.mk ((by rw [hw]; exact below_set (HB.out) GB22.out : Below w.heap.size w w24)); clear HO_6; clear HB; have HO_6 := n0_; have HB := n1_; clear n0_ n1_; clear hg hw hp_))
                        go_roundg k2
                        case measure => have := HJ2.out; have := HK2.out; omega
                        case rel => exact ⟨(y151), (wrap64 (x32_2 + 1)), (by first | rfl | (simp; done) | (simp [*]; done)), H', ⟨by have := HJ2.out; have := HK2.out; omega⟩, ⟨by (with_reducible repeat (first | apply Kd.R_alloc | apply Kd.R_drewN | apply Kd.R_drew)); exact HO_6.out⟩, ⟨by repeat (first | (with_reducible first | exact HB.out | apply below_alloc | apply pw_below_drewN | apply below_drew1) | exact HB.out)⟩⟩
                      · rw [if_neg c21] at H
                        exact absurd H (by simp)
                    · rw [if_neg c20] at H
                      exact absurd H (by simp)
                  · rw [if_neg c18] at H
                    exact absurd H (by simp)
                · rw [if_neg c16] at H
                  have c16b0 : decide (x32_2 < a1) = false := decide_eq_false c16
                  clear c16
                  simp only [Option.some.injEq, Prod.mk.injEq] at H
                  obtain ⟨rfl, rfl⟩ := H
                  have hcv25 := own_string (P := Try.prog) Try.underlying68 Try.underlying5 Try.underlying9 (Kd.own_of_R HO_6.out)
                  go_wp2
                  go_ret2
                  exact ⟨by first | rfl | (simp [errW_none, errW_some] <;> rfl) | (simp [*, errW_none, errW_some] <;> rfl), by repeat (first | (with_reducible first | exact HB.out | apply below_alloc | apply pw_below_drewN | apply below_drew1) | exact HB.out)⟩
          · rw [if_neg c13] at H
            exact absurd H (by simp)
        · rw [if_neg c12] at H
          exact absurd H (by simp)

/-! ### bytes_turn: function 48 -/
def bytes_turn.f (a0 : ByteArray) : Option (ByteArray) := if a0.size ≤ 9223372036854775807 then some (Turn.rev a0) else none
theorem bytes_turn.calls (a0 : ByteArray) (r : ByteArray) (w : World) (h : bytes_turn.f a0 = some r) :
    Calls Try.prog 48 #[.string a0] w fun e w' => e = .returned (.string r) ∧ Below w.heap.size w w' := by
  unfold bytes_turn.f at h
  split at h
  · rename_i hs
    cases h
    exact Turn.turn_any a0 hs w
  · cases h

/-! ### bytes_Be: function 36 -/
def bytes_Be.f (k : Nat) (a0 : Int) (a1 : Int) : Option (ByteArray × Int) := (bytes_Le.f k a0 a1).bind fun bt152 => ((bytes_turn.f bt152.1).bind fun t154 => (some (t154, bt152.2)))
theorem bytes_Be.mono : ∀ a0 a1 k, LeO (bytes_Be.f k a0 a1) (bytes_Be.f (k + 1) a0 a1) := by
  intro a0 a1 k
  unfold bytes_Be.f
  repeat' first
      | (with_reducible exact bytes_Le.mono _ _ _)
      | (with_reducible exact LeO.refl _)
      | (with_reducible exact LeO.none _)
      | (with_reducible refine LeO.ite ?_ ?_)
      | (with_reducible refine LeO.bind ?_ (fun _ => ?_))
      | exact bytes_Le.mono _ _ _
      | exact LeO.none _
      | refine LeO.ite ?_ ?_
      | refine LeO.bind ?_ (fun _ => ?_)
set_option maxHeartbeats 8000000 in
set_option maxRecDepth 100000 in
theorem bytes_Be.calls (k : Nat) (a0 : Int) (a1 : Int) (r1 : ByteArray) (r2 : Int) (w : World) (h : bytes_Be.f k a0 a1 = some (r1, r2)) :
    Calls Try.prog 36 #[.int .i64 a0, .int .i64 a1] w fun e w' => e = .returned (.tuple #[.string r1, .int .i64 r2]) ∧ Below w.heap.size w w' := by
  have HB := Aside0.mk (Below.refl w.heap.size w)
  have H : ((bytes_Le.f k a0 a1).bind fun bt152 => ((bytes_turn.f bt152.1).bind fun t154 => (some (t154, bt152.2)))) = some (r1, r2) := h
  clear h
  replace H := Option.bind_eq_some_iff.mp H
  obtain ⟨⟨t152, t153⟩, A30, H⟩ := H
  replace H : ((bytes_turn.f t152).bind fun t154 => (some (t154, t153))) = some (r1, r2) := H
  have A3 := Aside0.mk A30
  clear A30
  replace H := Option.bind_eq_some_iff.mp H
  obtain ⟨t154, A40, H⟩ := H
  replace H : (some (t154, t153)) = some (r1, r2) := H
  have A4 := Aside0.mk A40
  clear A40
  simp only [Option.some.injEq, Prod.mk.injEq] at H
  obtain ⟨rfl, rfl⟩ := H
  go_enter Try.func36, Try.ntmps36
  go_wp2_with (first | ((with_reducible refine gate_callee (f := 47) rfl ?_); refine goesL_ (some 11) rfl rfl Try.func47 (by kernel_rfl) rfl #[.int .i64 a0, .int .i64 a1] rfl (by (try simp only [List.map_toArray, List.map_cons, List.map_nil]); first | done | rfl | (simp only [List.length_drop, List.length_take]; rfl)) ?_; (with_reducible refine (bytes_Le.calls k a0 a1 t152 t153 _ A3.out).mono ?_); rintro e w5 ⟨rfl, hb⟩; refine ⟨_, rfl, ?_⟩; have n0_ := Aside0.mk (below_step (by repeat (first | (with_reducible first | exact HB.out | apply below_alloc | apply pw_below_drewN | apply below_drew1) | exact HB.out)) hb); clear HB; have HB := n0_; clear n0_; (try clear hb); (try clear hb2); (try clear hk); (try clear hi)) | ((with_reducible refine gate_callee (f := 48) rfl ?_); refine goesL_ (some 15) rfl rfl Try.func48 (by kernel_rfl) rfl #[.string t152] rfl (by (try simp only [List.map_toArray, List.map_cons, List.map_nil]); first | done | rfl | (simp only [List.length_drop, List.length_take]; rfl)) ?_; (with_reducible refine (bytes_turn.calls t152 t154 _ A4.out).mono ?_); rintro e w6 ⟨rfl, hb⟩; refine ⟨_, rfl, ?_⟩; have n0_ := Aside0.mk (below_step (by repeat (first | (with_reducible first | exact HB.out | apply below_alloc | apply pw_below_drewN | apply below_drew1) | exact HB.out)) hb); clear HB; have HB := n0_; clear n0_; (try clear hb); (try clear hb2); (try clear hk); (try clear hi)))
  go_ret2
  exact ⟨by first | rfl | (simp [errW_none, errW_some] <;> rfl) | (simp [*, errW_none, errW_some] <;> rfl), by repeat (first | (with_reducible first | exact HB.out | apply below_alloc | apply pw_below_drewN | apply below_drew1) | exact HB.out)⟩

/-! ### api_Block: function 37 -/
def api_Block.l0 : Nat → List (S36) → List (S36) → Int → Int → Option (Bool)
  | 0, _, _, _, _ => none
  | k + 1, x0, x1, x12, x13 => if x13 < x12 then (if 0 ≤ x13 then (if x13 < (x0.length : Int) then (if x13 < (x1.length : Int) then (if (!(((rd_T36 x0 x13).f0) == ((rd_T36 x1 x13).f0)) || (!((((rd_T36 x0 x13).f1).toList) == (((rd_T36 x1 x13).f1).toList)))) = true then (some false) else (api_Block.l0 k x0 x1 x12 (wrap64 (x13 + 1)))) else (none)) else (none)) else (none)) else (some true)
def api_Block.f (k : Nat) (l0 : List (S36)) (l1 : List (S36)) : Option (Bool) := if (l0.length : Int) = (l1.length : Int) then (api_Block.l0 k l0 l1 (l0.length : Int) 0) else (some false)
theorem api_Block.mono_l : ∀ k, (∀ y0 y1 y2 y3, LeO (api_Block.l0 k y0 y1 y2 y3) (api_Block.l0 (k + 1) y0 y1 y2 y3))
  | 0 => fun _ _ _ _ r h => by simp [api_Block.l0] at h
  | k + 1 => by
    have ih0 := api_Block.mono_l k
    · intro y0 y1 y2 y3
      unfold api_Block.l0
      repeat' first
      | (with_reducible exact ih0 _ _ _ _)
      | (with_reducible exact LeO.refl _)
      | (with_reducible exact LeO.none _)
      | (with_reducible refine LeO.ite ?_ ?_)
      | (with_reducible refine LeO.bind ?_ (fun _ => ?_))
      | exact ih0 _ _ _ _
      | exact LeO.none _
      | refine LeO.ite ?_ ?_
      | refine LeO.bind ?_ (fun _ => ?_)
theorem api_Block.mono : ∀ a0 a1 k, LeO (api_Block.f k a0 a1) (api_Block.f (k + 1) a0 a1) := by
  intro a0 a1 k
  have ih0 := api_Block.mono_l k
  unfold api_Block.f
  repeat' first
      | (with_reducible exact ih0 _ _ _ _)
      | (with_reducible exact LeO.refl _)
      | (with_reducible exact LeO.none _)
      | (with_reducible refine LeO.ite ?_ ?_)
      | (with_reducible refine LeO.bind ?_ (fun _ => ?_))
      | exact ih0 _ _ _ _
      | exact LeO.none _
      | refine LeO.ite ?_ ?_
      | refine LeO.bind ?_ (fun _ => ?_)
set_option maxHeartbeats 8000000 in
set_option maxRecDepth 100000 in
theorem api_Block.calls (k : Nat) (A0 : Option Addr) (c0 : Nat) (l0 : List (S36)) (A1 : Option Addr) (c1 : Nat) (l1 : List (S36)) (r : Bool) (w : World) (hr0 : Kd.C k36 w A0 l0.length l0) (hc0 : l0.length ≤ c0) (hr1 : Kd.C k36 w A1 l1.length l1) (hc1 : l1.length ≤ c1) (h : api_Block.f k l0 l1 = some r) :
    Calls Try.prog 37 #[.slice A0 l0.length c0, .slice A1 l1.length c1] w fun e w' => e = .returned (.bool r) ∧ Drawn0 w w' := by
  have hu36 := Try.underlying36
  have HR0 := Aside0.mk hr0
  have HC0 := Aside0.mk hc0
  clear hr0 hc0
  have HR1 := Aside0.mk hr1
  have HC1 := Aside0.mk hc1
  clear hr1 hc1
  have H : (if (l0.length : Int) = (l1.length : Int) then (api_Block.l0 k l0 l1 (l0.length : Int) 0) else (some false)) = some r := h
  clear h
  by_cases c3 : (l0.length : Int) = (l1.length : Int)
  · rw [if_pos c3] at H
    have c3b0 : ((l0.length : Int) == (l1.length : Int)) = true := beq_iff_eq.mpr c3
    have c3b1 : ((l0.length : Int) != (l1.length : Int)) = false := bne_eq_false_iff_eq.mpr c3
    have c3b2 : (l0.length == l1.length) = true := by first | simpa using c3 | (simp at c3 ⊢; omega)
    clear c3
    have H' := Aside0.mk H
    clear H
    go_enter Try.func37, Try.ntmps37
    go_wp2
    repeat (go_quiet (fail); try go_wp2)
    go_loopg [13] k (fun kq v13 w' => ∃ (x13_1 : Int), v13 = .int .i64 x13_1 ∧ Aside0 (api_Block.l0 kq l0 l1 (l0.length : Int) x13_1 = some r) ∧ Aside0 (kq ≤ k) ∧ Drawn0 w w')
    case atStart => exact ⟨(0), (by first | rfl | (simp; done) | (simp [*]; done)), H', ⟨Nat.le_refl _⟩, by repeat (first | exact Drawn0.refl _ | apply Drawn0.step)⟩
    case round =>
      clear H'
      try clear c1
      try clear p2
      try clear c3
      try clear c3b0
      try clear c3b1
      try clear c3b2
      obtain ⟨x13_1, rfl, HA, HK1, ⟨m1, rfl⟩⟩ := hrel
      cases gk with
      | zero => exact absurd HA.out (by simp [api_Block.l0])
      | succ k1 =>
        have H := HA.out
        clear HA
        simp only [api_Block.l0] at H
        by_cases c4 : x13_1 < (l0.length : Int)
        · rw [if_pos c4] at H
          have c4b0 : decide (x13_1 < (l0.length : Int)) = true := decide_eq_true c4
          clear c4
          by_cases c5 : 0 ≤ x13_1
          · rw [if_pos c5] at H
            have c5b0 : decide (0 ≤ x13_1) = true := decide_eq_true c5
            clear c5
            by_cases c6 : x13_1 < (l0.length : Int)
            · rw [if_pos c6] at H
              have c6b0 : decide (x13_1 < (l0.length : Int)) = true := decide_eq_true c6
              clear c6
              by_cases c7 : x13_1 < (l1.length : Int)
              · rw [if_pos c7] at H
                have c7b0 : decide (x13_1 < (l1.length : Int)) = true := decide_eq_true c7
                clear c7
                by_cases c8 : (!(((rd_T36 l0 x13_1).f0) == ((rd_T36 l1 x13_1).f0)) || (!((((rd_T36 l0 x13_1).f1).toList) == (((rd_T36 l1 x13_1).f1).toList)))) = true
                · rw [if_pos c8] at H
                  have c8b0 : (!(((rd_T36 l0 x13_1).f0) == ((rd_T36 l1 x13_1).f0)) || (!((((rd_T36 l0 x13_1).f1).toList) == (((rd_T36 l1 x13_1).f1).toList)))) = true := c8
                  clear c8
                  obtain rfl := Option.some.inj H
                  have p155 : 0 ≤ (x13_1 : Int) := of_decide_eq_true (by first | (with_reducible assumption) | assumption)
                  have q155 : x13_1 < (l0.length : Int) := of_decide_eq_true (by first | (with_reducible assumption) | assumption)
                  obtain ⟨ad155, e155, hx155_0, hx155_1⟩ := at_T36 HR0.out x13_1 p155 q155
                  cases e155
                  replace p155 := eq_true p155
                  replace q155 := eq_true q155
                  have p156 : 0 ≤ (x13_1 : Int) := of_decide_eq_true (by first | (with_reducible assumption) | assumption)
                  have q156 : x13_1 < (l1.length : Int) := of_decide_eq_true (by first | (with_reducible assumption) | assumption)
                  obtain ⟨ad156, e156, hx156_0, hx156_1⟩ := at_T36 HR1.out x13_1 p156 q156
                  cases e156
                  replace p156 := eq_true p156
                  replace q156 := eq_true q156
                  go_wp2
                  repeat (go_quiet (fail); try go_wp2)
                  go_ret
                  exact ⟨by first | rfl | (simp; done) | (simp [*]; done), by repeat (first | exact Drawn0.refl _ | apply Drawn0.step)⟩
                · rw [if_neg c8] at H
                  have c8b0 : (!(((rd_T36 l0 x13_1).f0) == ((rd_T36 l1 x13_1).f0)) || (!((((rd_T36 l0 x13_1).f1).toList) == (((rd_T36 l1 x13_1).f1).toList)))) = false := by simpa using c8
                  clear c8
                  have H' := Aside0.mk H
                  clear H
                  have p155 : 0 ≤ (x13_1 : Int) := of_decide_eq_true (by first | (with_reducible assumption) | assumption)
                  have q155 : x13_1 < (l0.length : Int) := of_decide_eq_true (by first | (with_reducible assumption) | assumption)
                  obtain ⟨ad155, e155, hx155_0, hx155_1⟩ := at_T36 HR0.out x13_1 p155 q155
                  cases e155
                  replace p155 := eq_true p155
                  replace q155 := eq_true q155
                  have p156 : 0 ≤ (x13_1 : Int) := of_decide_eq_true (by first | (with_reducible assumption) | assumption)
                  have q156 : x13_1 < (l1.length : Int) := of_decide_eq_true (by first | (with_reducible assumption) | assumption)
                  obtain ⟨ad156, e156, hx156_0, hx156_1⟩ := at_T36 HR1.out x13_1 p156 q156
                  cases e156
                  replace p156 := eq_true p156
                  replace q156 := eq_true q156
                  go_wp2
                  repeat (go_quiet (fail); try go_wp2)
                  go_roundg k1
                  case measure => have := HK1.out; omega
                  case rel => exact ⟨(wrap64 (x13_1 + 1)), (by first | rfl | (simp; done) | (simp [*]; done)), H', ⟨by have := HK1.out; omega⟩, by repeat (first | exact Drawn0.refl _ | apply Drawn0.step)⟩
              · rw [if_neg c7] at H
                exact absurd H (by simp)
            · rw [if_neg c6] at H
              exact absurd H (by simp)
          · rw [if_neg c5] at H
            exact absurd H (by simp)
        · rw [if_neg c4] at H
          have c4b0 : decide (x13_1 < (l0.length : Int)) = false := decide_eq_false c4
          clear c4
          obtain rfl := Option.some.inj H
          go_wp2
          repeat (go_quiet (fail); try go_wp2)
          go_ret
          exact ⟨by first | rfl | (simp; done) | (simp [*]; done), by repeat (first | exact Drawn0.refl _ | apply Drawn0.step)⟩
  · rw [if_neg c3] at H
    have c3b0 : ((l0.length : Int) == (l1.length : Int)) = false := beq_eq_false_iff_ne.mpr c3
    have c3b1 : ((l0.length : Int) != (l1.length : Int)) = true := bne_iff_ne.mpr c3
    have c3b2 : (l0.length == l1.length) = false := by first | simpa using c3 | (simp at c3 ⊢; omega)
    obtain rfl := Option.some.inj H
    go_enter Try.func37, Try.ntmps37
    go_wp2
    repeat (go_quiet (fail); try go_wp2)
    go_ret
    exact ⟨by first | rfl | (simp; done) | (simp [*]; done), by repeat (first | exact Drawn0.refl _ | apply Drawn0.step)⟩

end Go.Proofs.Ytgihacaegmpggaa.R

/- Printed by a program of ours (pp.sh), partly over contracts proved by hand. -/
namespace Go.Proofs.Ytgihacaegmpggaa.R
open Go.RowKit Go.Proofs.YtgihacaegmpggaaW.PrintWords Go.Proofs.YtgihacaegmpggaaW.PrintLast Go.Proofs.YtgihacaegmpggaaW.PrintMore
attribute [local go_sem] max2_int min2_int max_two min_two max_three min_three max_four min_four   -- for this text's walks alone
set_option linter.unusedVariables false
set_option linter.unusedSimpArgs false

/-! ### lacquerref13_cuesheet: function 32 -/
mutual
def lacquerref13_cuesheet.j0 : Nat → ByteArray → Bool → Option (Bool)
  | 0, _, _ => none
  | k + 1, x0, x17 => if x17 = true then (some false) else (lacquerref13_cuesheet.l0 k x0 396 0)
def lacquerref13_cuesheet.l0 : Nat → ByteArray → Int → Int → Option (Bool)
  | 0, _, _, _ => none
  | k + 1, x0, x3, x4 => if 395 < (x0.size : Int) then (if x4 < (wrap64 (bt x0 395)) then (if (x0.size : Int) < (wrap64 (x3 + 36)) then (some false) else (if 0 ≤ (wrap64 (x3 + 35)) then (if (wrap64 (x3 + 35)) < (x0.size : Int) then (lacquerref13_cuesheet.l0 k x0 (wrap64 (x3 + (wrap64 (36 + (wrap64 (12 * (wrap64 (bt x0 (wrap64 (x3 + 35)))))))))) (wrap64 (x4 + 1))) else (none)) else (none))) else (some ((x0.size : Int) == x3))) else (none)
end
def lacquerref13_cuesheet.f (k : Nat) (a0 : ByteArray) : Option (Bool) := if (a0.size : Int) < 396 then (lacquerref13_cuesheet.j0 k a0 true) else (if 395 < (a0.size : Int) then (if (bt a0 395) < 1 then (lacquerref13_cuesheet.j0 k a0 true) else (lacquerref13_cuesheet.j0 k a0 (decide ((bt a0 395) > 100)))) else (none))
set_option maxHeartbeats 8000000 in
set_option maxRecDepth 100000 in
theorem lacquerref13_cuesheet.calls (k : Nat) (a0 : ByteArray) (r : Bool) (w : World) (h : lacquerref13_cuesheet.f k a0 = some r) :
    Calls Try.prog 32 #[.string a0] w fun e w' => e = .returned (.bool r) ∧ Drawn0 w w' := by
  have H : (if (a0.size : Int) < 396 then (lacquerref13_cuesheet.j0 k a0 true) else (if 395 < (a0.size : Int) then (if (bt a0 395) < 1 then (lacquerref13_cuesheet.j0 k a0 true) else (lacquerref13_cuesheet.j0 k a0 (decide ((bt a0 395) > 100)))) else (none))) = some r := h
  clear h
  have HC2 := Aside0.mk H
  clear H
  go_enter Try.func32, Try.ntmps32
  go_upto_region 1 with (fail)
  go_cut [17] (fun v17 wc => ∃ (kq : Nat) (x17_1 : Bool), v17 = .bool x17_1 ∧ Aside0 (lacquerref13_cuesheet.j0 kq a0 x17_1 = some r) ∧ Aside0 (kq ≤ k) ∧ Drawn0 w wc)
  case first =>
    have H := HC2.out
    clear HC2
    by_cases c3 : (a0.size : Int) < 396
    · rw [if_pos c3] at H
      have c3b0 : decide ((a0.size : Int) < 396) = true := decide_eq_true c3
      have c3b1 : decide (a0.size < 396) = true := decide_eq_true (by omega)
      clear c3
      (first | rw [c3b0] | (simp only [i64_w, i32_w]; rw [c3b0]) | skip)
      have H' := Aside0.mk H
      clear H
      go_wp2
      go_meet
      case rel => exact ⟨_, (true), (by first | rfl | (simp; done) | (simp [*]; done)), H', ⟨by first | omega | exact Nat.le_refl _⟩, by repeat (first | exact Drawn0.refl _ | apply Drawn0.step)⟩
    · rw [if_neg c3] at H
      have c3b0 : decide ((a0.size : Int) < 396) = false := decide_eq_false c3
      have c3b1 : decide (a0.size < 396) = false := decide_eq_false (by omega)
      clear c3
      (first | rw [c3b0] | (simp only [i64_w, i32_w]; rw [c3b0]) | skip)
      by_cases c4 : 395 < (a0.size : Int)
      · rw [if_pos c4] at H
        have c4b0 : decide (395 < (a0.size : Int)) = true := decide_eq_true c4
        have c4b1 : decide (395 < a0.size) = true := decide_eq_true (by omega)
        clear c4
        by_cases c6 : (bt a0 395) < 1
        · rw [if_pos c6] at H
          have c6b0 : decide ((bt a0 395) < 1) = true := decide_eq_true c6
          clear c6
          have H' := Aside0.mk H
          clear H
          have p5 : 0 ≤ (395 : Int) := (by omega)
          have q5 : 395 < a0.size := (by have : (395 : Int) < (a0.size : Int) := of_decide_eq_true (by first | (with_reducible assumption) | assumption); omega)
          have hx5 : ∀ h : 395 < a0.size, ((a0[395]'h).toNat : Int) = bt a0 395 := bt_at a0 395
          clear p5
          have qi5 : (395 < (a0.size : Int)) = True := eq_true (of_decide_eq_true (by first | (with_reducible assumption) | assumption))
          replace q5 := eq_true q5
          go_wp2
          go_meet
          case rel => exact ⟨_, (true), (by first | rfl | (simp; done) | (simp [*]; done)), H', ⟨by first | omega | exact Nat.le_refl _⟩, by repeat (first | exact Drawn0.refl _ | apply Drawn0.step)⟩
        · rw [if_neg c6] at H
          have c6b0 : decide ((bt a0 395) < 1) = false := decide_eq_false c6
          clear c6
          have H' := Aside0.mk H
          clear H
          have p5 : 0 ≤ (395 : Int) := (by omega)
          have q5 : 395 < a0.size := (by have : (395 : Int) < (a0.size : Int) := of_decide_eq_true (by first | (with_reducible assumption) | assumption); omega)
          have hx5 : ∀ h : 395 < a0.size, ((a0[395]'h).toNat : Int) = bt a0 395 := bt_at a0 395
          clear p5
          have qi5 : (395 < (a0.size : Int)) = True := eq_true (of_decide_eq_true (by first | (with_reducible assumption) | assumption))
          replace q5 := eq_true q5
          have p7 : 0 ≤ (395 : Int) := (by omega)
          have q7 : 395 < a0.size := (by have : (395 : Int) < (a0.size : Int) := of_decide_eq_true (by first | (with_reducible assumption) | assumption); omega)
          have hx7 : ∀ h : 395 < a0.size, ((a0[395]'h).toNat : Int) = bt a0 395 := bt_at a0 395
          clear p7
          have qi7 : (395 < (a0.size : Int)) = True := eq_true (of_decide_eq_true (by first | (with_reducible assumption) | assumption))
          replace q7 := eq_true q7
          go_wp2
          go_meet
          case rel => exact ⟨_, (decide ((bt a0 395) > 100)), (by first | rfl | (simp; done) | (simp [*]; done)), H', ⟨by first | omega | exact Nat.le_refl _⟩, by repeat (first | exact Drawn0.refl _ | apply Drawn0.step)⟩
      · rw [if_neg c4] at H
        exact absurd H (by simp)
  case rest =>
    clear HC2
    try clear p2
    try clear c3
    try clear c3b0
    try clear c3b1
    try clear c4
    try clear c4b0
    try clear c4b1
    try clear p5
    try clear q5
    try clear hx5
    try clear qi5
    try clear c6
    try clear c6b0
    try clear p7
    try clear q7
    try clear hx7
    try clear qi7
    try clear p5
    try clear p7
    try clear q5
    try clear q7
    obtain ⟨kq, x17_1, rfl, HA, HJ1, ⟨mc1, rfl⟩⟩ := hcut
    cases kq with
    | zero => exact absurd HA.out (by simp [lacquerref13_cuesheet.j0])
    | succ kj1 =>
      have H := HA.out
      clear HA
      simp only [lacquerref13_cuesheet.j0] at H
      by_cases c8 : x17_1 = true
      · subst c8
        have H1 : (some false) = some r := by rw [if_pos rfl] at H; exact H
        clear H
        have H := H1
        clear H1
        obtain rfl := Option.some.inj H
        go_wp2
        go_ret
        exact ⟨by first | rfl | (simp; done) | (simp [*]; done), by repeat (first | exact Drawn0.refl _ | apply Drawn0.step)⟩
      · replace c8 := Bool.eq_false_iff.mpr c8
        subst c8
        have H1 : (lacquerref13_cuesheet.l0 kj1 a0 396 0) = some r := by rw [if_neg (show ¬ (false = true) by decide)] at H; exact H
        clear H
        have H := H1
        clear H1
        have H' := Aside0.mk H
        clear H
        go_wp2
        go_loopg [3, 4] kj1 (fun kq v3 v4 w' => ∃ (x3_2 : Int) (x4_2 : Int), v3 = .int .i64 x3_2 ∧ v4 = .int .i64 x4_2 ∧ Aside0 (lacquerref13_cuesheet.l0 kq a0 x3_2 x4_2 = some r) ∧ Aside0 (kq ≤ kj1) ∧ Drawn0 w w')
        case atStart => exact ⟨(396), (0), (by first | rfl | (simp; done) | (simp [*]; done)), (by first | rfl | (simp; done) | (simp [*]; done)), H', ⟨Nat.le_refl _⟩, by repeat (first | exact Drawn0.refl _ | apply Drawn0.step)⟩
        case round =>
          clear H'
          try clear c1
          try clear p2
          try clear c3
          try clear c3b0
          try clear c3b1
          try clear c4
          try clear c4b0
          try clear c4b1
          try clear p5
          try clear q5
          try clear hx5
          try clear qi5
          try clear c6
          try clear c6b0
          try clear p7
          try clear q7
          try clear hx7
          try clear qi7
          try clear c8
          try clear p2
          try clear p5
          try clear p7
          try clear q5
          try clear q7
          obtain ⟨x3_2, x4_2, rfl, rfl, HA, HK2, ⟨m2, rfl⟩⟩ := hrel
          cases gk with
          | zero => exact absurd HA.out (by simp [lacquerref13_cuesheet.l0])
          | succ k2 =>
            have H := HA.out
            clear HA
            simp only [lacquerref13_cuesheet.l0] at H
            by_cases c9 : 395 < (a0.size : Int)
            · rw [if_pos c9] at H
              have c9b0 : decide (395 < (a0.size : Int)) = true := decide_eq_true c9
              have c9b1 : decide (395 < a0.size) = true := decide_eq_true (by omega)
              clear c9
              by_cases c11 : x4_2 < (wrap64 (bt a0 395))
              · rw [if_pos c11] at H
                have c11b0 : decide (x4_2 < (wrap64 (bt a0 395))) = true := decide_eq_true c11
                clear c11
                by_cases c12 : (a0.size : Int) < (wrap64 (x3_2 + 36))
                · rw [if_pos c12] at H
                  have c12b0 : decide ((a0.size : Int) < (wrap64 (x3_2 + 36))) = true := decide_eq_true c12
                  clear c12
                  obtain rfl := Option.some.inj H
                  have p10 : 0 ≤ (395 : Int) := (by omega)
                  have q10 : 395 < a0.size := (by have : (395 : Int) < (a0.size : Int) := of_decide_eq_true (by first | (with_reducible assumption) | assumption); omega)
                  have hx10 : ∀ h : 395 < a0.size, ((a0[395]'h).toNat : Int) = bt a0 395 := bt_at a0 395
                  clear p10
                  have qi10 : (395 < (a0.size : Int)) = True := eq_true (of_decide_eq_true (by first | (with_reducible assumption) | assumption))
                  replace q10 := eq_true q10
                  go_wp2
                  go_ret
                  exact ⟨by first | rfl | (simp; done) | (simp [*]; done), by repeat (first | exact Drawn0.refl _ | apply Drawn0.step)⟩
                · rw [if_neg c12] at H
                  have c12b0 : decide ((a0.size : Int) < (wrap64 (x3_2 + 36))) = false := decide_eq_false c12
                  clear c12
                  obtain ⟨ji13, hji13⟩ : ∃ j_ : Int, (wrap64 (x3_2 + 35)) = j_ := ⟨_, rfl⟩
                  replace H : (if 0 ≤ (ji13) then (if (ji13) < (a0.size : Int) then (lacquerref13_cuesheet.l0 k2 a0 (wrap64 (x3_2 + (wrap64 (36 + (wrap64 (12 * (wrap64 (bt a0 (ji13))))))))) (wrap64 (x4_2 + 1))) else (none)) else (none)) = some r := by first | (rw [hji13] at H; exact H) | (simp only [hji13] at H ⊢; exact H)
                  have hji13w : (IntKind.i64.wrap (x3_2 + 35)) = ji13 := (i64_w _).trans hji13
                  by_cases c14 : 0 ≤ (ji13)
                  · rw [if_pos c14] at H
                    have c14b0 : decide (0 ≤ (ji13)) = true := decide_eq_true c14
                    clear c14
                    by_cases c15 : (ji13) < (a0.size : Int)
                    · rw [if_pos c15] at H
                      have c15b0 : decide ((ji13) < (a0.size : Int)) = true := decide_eq_true c15
                      clear c15
                      have H' := Aside0.mk H
                      clear H
                      have p10 : 0 ≤ (395 : Int) := (by omega)
                      have q10 : 395 < a0.size := (by have : (395 : Int) < (a0.size : Int) := of_decide_eq_true (by first | (with_reducible assumption) | assumption); omega)
                      have hx10 : ∀ h : 395 < a0.size, ((a0[395]'h).toNat : Int) = bt a0 395 := bt_at a0 395
                      clear p10
                      have qi10 : (395 < (a0.size : Int)) = True := eq_true (of_decide_eq_true (by first | (with_reducible assumption) | assumption))
                      replace q10 := eq_true q10
                      have p16 : 0 ≤ ((ji13) : Int) := of_decide_eq_true (by first | (with_reducible assumption) | assumption)
                      have q16 : (ji13) < (a0.size : Int) := of_decide_eq_true (by first | (with_reducible assumption) | assumption)
                      have hx16 := bt_at a0 (ji13)
                      replace p16 := eq_true p16
                      replace q16 := eq_true q16
                      go_wp2
                      go_roundg k2
                      case measure => have := HJ1.out; have := HK2.out; omega
                      case rel => exact ⟨(wrap64 (x3_2 + (wrap64 (36 + (wrap64 (12 * (wrap64 (bt a0 (ji13))))))))), (wrap64 (x4_2 + 1)), (by first | rfl | (simp; done) | (simp only [← hji13] <;> (first | rfl | simp)) | (simp [*]; done)), (by first | rfl | (simp; done) | (simp [*]; done)), H', ⟨by have := HJ1.out; have := HK2.out; omega⟩, by repeat (first | exact Drawn0.refl _ | apply Drawn0.step)⟩
                    · rw [if_neg c15] at H
                      exact absurd H (by simp)
                  · rw [if_neg c14] at H
                    exact absurd H (by simp)
              · rw [if_neg c11] at H
                have c11b0 : decide (x4_2 < (wrap64 (bt a0 395))) = false := decide_eq_false c11
                clear c11
                obtain rfl := Option.some.inj H
                have p10 : 0 ≤ (395 : Int) := (by omega)
                have q10 : 395 < a0.size := (by have : (395 : Int) < (a0.size : Int) := of_decide_eq_true (by first | (with_reducible assumption) | assumption); omega)
                have hx10 : ∀ h : 395 < a0.size, ((a0[395]'h).toNat : Int) = bt a0 395 := bt_at a0 395
                clear p10
                have qi10 : (395 < (a0.size : Int)) = True := eq_true (of_decide_eq_true (by first | (with_reducible assumption) | assumption))
                replace q10 := eq_true q10
                go_wp2
                go_ret
                exact ⟨by first | rfl | (simp; done) | (simp [*]; done), by repeat (first | exact Drawn0.refl _ | apply Drawn0.step)⟩
            · rw [if_neg c9] at H
              exact absurd H (by simp)

/-! ### lacquerref02_FromBe: function 35 -/
mutual
def lacquerref02_FromBe.j0 : Nat → ByteArray → Bool → Option (Int)
  | 0, _, _ => none
  | k + 1, x0, x17 => if x17 = true then (some (-1)) else (lacquerref02_FromBe.l0 k x0 0 0)
def lacquerref02_FromBe.l0 : Nat → ByteArray → Int → Int → Option (Int)
  | 0, _, _, _ => none
  | k + 1, x0, x3, x4 => if x4 < (x0.size : Int) then (if 0 ≤ x4 then (lacquerref02_FromBe.l0 k x0 (wrap64 ((wrap64 (x3 * 256)) + (wrap64 (bt x0 x4)))) (wrap64 (x4 + 1))) else (none)) else (some x3)
end
def lacquerref02_FromBe.f (k : Nat) (a0 : ByteArray) : Option (Int) := if (a0.size : Int) > 8 then (lacquerref02_FromBe.j0 k a0 true) else (if (a0.size : Int) = 8 then (if 0 < (a0.size : Int) then (lacquerref02_FromBe.j0 k a0 (decide ((bt a0 0) > 127))) else (none)) else (lacquerref02_FromBe.j0 k a0 false))
theorem lacquerref02_FromBe.mono_l : ∀ k, (∀ y0 y1, LeO (lacquerref02_FromBe.j0 k y0 y1) (lacquerref02_FromBe.j0 (k + 1) y0 y1)) ∧ (∀ y0 y1 y2, LeO (lacquerref02_FromBe.l0 k y0 y1 y2) (lacquerref02_FromBe.l0 (k + 1) y0 y1 y2))
  | 0 => ⟨fun _ _ r h => by simp [lacquerref02_FromBe.j0] at h, fun _ _ _ r h => by simp [lacquerref02_FromBe.l0] at h⟩
  | k + 1 => by
    obtain ⟨ih0, ih1⟩ := lacquerref02_FromBe.mono_l k
    refine ⟨?_, ?_⟩
    · intro y0 y1
      unfold lacquerref02_FromBe.j0
      repeat' first
      | (with_reducible exact ih0 _ _)
      | (with_reducible exact ih1 _ _ _)
      | (with_reducible exact LeO.refl _)
      | (with_reducible exact LeO.none _)
      | (with_reducible refine LeO.ite ?_ ?_)
      | (with_reducible refine LeO.bind ?_ (fun _ => ?_))
      | exact ih0 _ _
      | exact ih1 _ _ _
      | exact LeO.none _
      | refine LeO.ite ?_ ?_
      | refine LeO.bind ?_ (fun _ => ?_)
    · intro y0 y1 y2
      unfold lacquerref02_FromBe.l0
      repeat' first
      | (with_reducible exact ih0 _ _)
      | (with_reducible exact ih1 _ _ _)
      | (with_reducible exact LeO.refl _)
      | (with_reducible exact LeO.none _)
      | (with_reducible refine LeO.ite ?_ ?_)
      | (with_reducible refine LeO.bind ?_ (fun _ => ?_))
      | exact ih0 _ _
      | exact ih1 _ _ _
      | exact LeO.none _
      | refine LeO.ite ?_ ?_
      | refine LeO.bind ?_ (fun _ => ?_)
theorem lacquerref02_FromBe.mono : ∀ a0 k, LeO (lacquerref02_FromBe.f k a0) (lacquerref02_FromBe.f (k + 1) a0) := by
  intro a0 k
  obtain ⟨ih0, ih1⟩ := lacquerref02_FromBe.mono_l k
  unfold lacquerref02_FromBe.f
  repeat' first
      | (with_reducible exact ih0 _ _)
      | (with_reducible exact ih1 _ _ _)
      | (with_reducible exact LeO.refl _)
      | (with_reducible exact LeO.none _)
      | (with_reducible refine LeO.ite ?_ ?_)
      | (with_reducible refine LeO.bind ?_ (fun _ => ?_))
      | exact ih0 _ _
      | exact ih1 _ _ _
      | exact LeO.none _
      | refine LeO.ite ?_ ?_
      | refine LeO.bind ?_ (fun _ => ?_)
set_option maxHeartbeats 8000000 in
set_option maxRecDepth 100000 in
theorem lacquerref02_FromBe.calls (k : Nat) (a0 : ByteArray) (r : Int) (w : World) (h : lacquerref02_FromBe.f k a0 = some r) :
    Calls Try.prog 35 #[.string a0] w fun e w' => e = .returned (.int .i64 r) ∧ Drawn0 w w' := by
  have H : (if (a0.size : Int) > 8 then (lacquerref02_FromBe.j0 k a0 true) else (if (a0.size : Int) = 8 then (if 0 < (a0.size : Int) then (lacquerref02_FromBe.j0 k a0 (decide ((bt a0 0) > 127))) else (none)) else (lacquerref02_FromBe.j0 k a0 false))) = some r := h
  clear h
  have HC2 := Aside0.mk H
  clear H
  go_enter Try.func35, Try.ntmps35
  go_upto_region 1 with (fail)
  go_cut [17] (fun v17 wc => ∃ (kq : Nat) (x17_1 : Bool), v17 = .bool x17_1 ∧ Aside0 (lacquerref02_FromBe.j0 kq a0 x17_1 = some r) ∧ Aside0 (kq ≤ k) ∧ Drawn0 w wc)
  case first =>
    have H := HC2.out
    clear HC2
    by_cases c3 : (a0.size : Int) > 8
    · rw [if_pos c3] at H
      have c3b0 : decide (8 < (a0.size : Int)) = true := decide_eq_true c3
      have c3b1 : decide (8 < a0.size) = true := decide_eq_true (by omega)
      clear c3
      (first | rw [c3b0] | (simp only [i64_w, i32_w]; rw [c3b0]) | skip)
      have H' := Aside0.mk H
      clear H
      go_wp2
      go_meet
      case rel => exact ⟨_, (true), (by first | rfl | (simp; done) | (simp [*]; done)), H', ⟨by first | omega | exact Nat.le_refl _⟩, by repeat (first | exact Drawn0.refl _ | apply Drawn0.step)⟩
    · rw [if_neg c3] at H
      have c3b0 : decide (8 < (a0.size : Int)) = false := decide_eq_false c3
      have c3b1 : decide (8 < a0.size) = false := decide_eq_false (by omega)
      clear c3
      (first | rw [c3b0] | (simp only [i64_w, i32_w]; rw [c3b0]) | skip)
      by_cases c4 : (a0.size : Int) = 8
      · rw [if_pos c4] at H
        have c4b0 : ((a0.size : Int) == 8) = true := beq_iff_eq.mpr c4
        have c4b1 : ((a0.size : Int) != 8) = false := bne_eq_false_iff_eq.mpr c4
        clear c4
        by_cases c5 : 0 < (a0.size : Int)
        · rw [if_pos c5] at H
          have c5b0 : decide (0 < (a0.size : Int)) = true := decide_eq_true c5
          have c5b1 : decide (0 < a0.size) = true := decide_eq_true (by omega)
          clear c5
          have H' := Aside0.mk H
          clear H
          have p6 : 0 ≤ (0 : Int) := (by omega)
          have q6 : 0 < a0.size := (by have : (0 : Int) < (a0.size : Int) := of_decide_eq_true (by first | (with_reducible assumption) | assumption); omega)
          have hx6 : ∀ h : 0 < a0.size, ((a0[0]'h).toNat : Int) = bt a0 0 := bt_at a0 0
          clear p6
          have qi6 : (0 < (a0.size : Int)) = True := eq_true (of_decide_eq_true (by first | (with_reducible assumption) | assumption))
          replace q6 := eq_true q6
          go_wp2
          go_meet
          case rel => exact ⟨_, (decide ((bt a0 0) > 127)), (by first | rfl | (simp; done) | (simp [*]; done)), H', ⟨by first | omega | exact Nat.le_refl _⟩, by repeat (first | exact Drawn0.refl _ | apply Drawn0.step)⟩
        · rw [if_neg c5] at H
          exact absurd H (by simp)
      · rw [if_neg c4] at H
        have c4b0 : ((a0.size : Int) == 8) = false := beq_eq_false_iff_ne.mpr c4
        have c4b1 : ((a0.size : Int) != 8) = true := bne_iff_ne.mpr c4
        have H' := Aside0.mk H
        clear H
        go_wp2
        go_meet
        case rel => exact ⟨_, (false), (by first | rfl | (simp; done) | (simp [*]; done)), H', ⟨by first | omega | exact Nat.le_refl _⟩, by repeat (first | exact Drawn0.refl _ | apply Drawn0.step)⟩
  case rest =>
    clear HC2
    try clear p2
    try clear c3
    try clear c3b0
    try clear c3b1
    try clear c4
    try clear c4b0
    try clear c4b1
    try clear c5
    try clear c5b0
    try clear c5b1
    try clear p6
    try clear q6
    try clear hx6
    try clear qi6
    try clear p6
    try clear q6
    obtain ⟨kq, x17_1, rfl, HA, HJ1, ⟨mc1, rfl⟩⟩ := hcut
    cases kq with
    | zero => exact absurd HA.out (by simp [lacquerref02_FromBe.j0])
    | succ kj1 =>
      have H := HA.out
      clear HA
      simp only [lacquerref02_FromBe.j0] at H
      by_cases c7 : x17_1 = true
      · subst c7
        have H1 : (some (-1)) = some r := by rw [if_pos rfl] at H; exact H
        clear H
        have H := H1
        clear H1
        obtain rfl := Option.some.inj H
        go_wp2
        go_ret
        exact ⟨by first | rfl | (simp; done) | (simp [*]; done), by repeat (first | exact Drawn0.refl _ | apply Drawn0.step)⟩
      · replace c7 := Bool.eq_false_iff.mpr c7
        subst c7
        have H1 : (lacquerref02_FromBe.l0 kj1 a0 0 0) = some r := by rw [if_neg (show ¬ (false = true) by decide)] at H; exact H
        clear H
        have H := H1
        clear H1
        have H' := Aside0.mk H
        clear H
        go_wp2
        go_loopg [3, 4] kj1 (fun kq v3 v4 w' => ∃ (x3_2 : Int) (x4_2 : Int), v3 = .int .i64 x3_2 ∧ v4 = .int .i64 x4_2 ∧ Aside0 (lacquerref02_FromBe.l0 kq a0 x3_2 x4_2 = some r) ∧ Aside0 (kq ≤ kj1) ∧ Drawn0 w w')
        case atStart => exact ⟨(0), (0), (by first | rfl | (simp; done) | (simp [*]; done)), (by first | rfl | (simp; done) | (simp [*]; done)), H', ⟨Nat.le_refl _⟩, by repeat (first | exact Drawn0.refl _ | apply Drawn0.step)⟩
        case round =>
          clear H'
          try clear c1
          try clear p2
          try clear c3
          try clear c3b0
          try clear c3b1
          try clear c4
          try clear c4b0
          try clear c4b1
          try clear c5
          try clear c5b0
          try clear c5b1
          try clear p6
          try clear q6
          try clear hx6
          try clear qi6
          try clear c7
          try clear p2
          try clear p6
          try clear q6
          obtain ⟨x3_2, x4_2, rfl, rfl, HA, HK2, ⟨m2, rfl⟩⟩ := hrel
          cases gk with
          | zero => exact absurd HA.out (by simp [lacquerref02_FromBe.l0])
          | succ k2 =>
            have H := HA.out
            clear HA
            simp only [lacquerref02_FromBe.l0] at H
            by_cases c8 : x4_2 < (a0.size : Int)
            · rw [if_pos c8] at H
              have c8b0 : decide (x4_2 < (a0.size : Int)) = true := decide_eq_true c8
              clear c8
              by_cases c9 : 0 ≤ x4_2
              · rw [if_pos c9] at H
                have c9b0 : decide (0 ≤ x4_2) = true := decide_eq_true c9
                clear c9
                have H' := Aside0.mk H
                clear H
                have p10 : 0 ≤ (x4_2 : Int) := of_decide_eq_true (by first | (with_reducible assumption) | assumption)
                have q10 : x4_2 < (a0.size : Int) := of_decide_eq_true (by first | (with_reducible assumption) | assumption)
                have hx10 := bt_at a0 x4_2
                replace p10 := eq_true p10
                replace q10 := eq_true q10
                go_wp2
                go_roundg k2
                case measure => have := HJ1.out; have := HK2.out; omega
                case rel => exact ⟨(wrap64 ((wrap64 (x3_2 * 256)) + (wrap64 (bt a0 x4_2)))), (wrap64 (x4_2 + 1)), (by first | rfl | (simp; done) | (simp [*]; done)), (by first | rfl | (simp; done) | (simp [*]; done)), H', ⟨by have := HJ1.out; have := HK2.out; omega⟩, by repeat (first | exact Drawn0.refl _ | apply Drawn0.step)⟩
              · rw [if_neg c9] at H
                exact absurd H (by simp)
            · rw [if_neg c8] at H
              have c8b0 : decide (x4_2 < (a0.size : Int)) = false := decide_eq_false c8
              clear c8
              obtain rfl := Option.some.inj H
              go_wp2
              go_ret
              exact ⟨by first | rfl | (simp; done) | (simp [*]; done), by repeat (first | exact Drawn0.refl _ | apply Drawn0.step)⟩

/-! ### lacquerref13_picture: function 33 -/
mutual
def lacquerref13_picture.l0 : Nat → ByteArray → Int → Int → Option (Bool)
  | 0, _, _, _ => none
  | k + 1, x0, x3, x4 => if x4 < 3 then (if x4 = 2 then (lacquerref13_picture.j1 k x0 (wrap64 (x3 + 16)) x4) else (lacquerref13_picture.j1 k x0 x3 x4)) else (some ((x0.size : Int) == x3))
def lacquerref13_picture.j1 : Nat → ByteArray → Int → Int → Option (Bool)
  | 0, _, _, _ => none
  | k + 1, x0, x3, x4 => if (x0.size : Int) < (wrap64 (x3 + 4)) then (some false) else (if 0 ≤ x3 then (if x3 ≤ (wrap64 (x3 + 4)) then (if (wrap64 (x3 + 4)) ≤ (x0.size : Int) then ((lacquerref02_FromBe.f k (x0.extract (x3 : Int).toNat ((wrap64 (x3 + 4)) : Int).toNat)).bind fun t269 => (if t269 > (wrap64 ((x0.size : Int) - (wrap64 (x3 + 4)))) then (some false) else (lacquerref13_picture.l0 k x0 (wrap64 ((wrap64 (x3 + 4)) + t269)) (wrap64 (x4 + 1))))) else (none)) else (none)) else (none))
end
def lacquerref13_picture.f (k : Nat) (a0 : ByteArray) : Option (Bool) := lacquerref13_picture.l0 k a0 4 0
set_option maxHeartbeats 8000000 in
set_option maxRecDepth 100000 in
theorem lacquerref13_picture.calls (k : Nat) (a0 : ByteArray) (r : Bool) (w : World) (h : lacquerref13_picture.f k a0 = some r) :
    Calls Try.prog 33 #[.string a0] w fun e w' => e = .returned (.bool r) ∧ Drawn0 w w' := by
  have H : (lacquerref13_picture.l0 k a0 4 0) = some r := h
  clear h
  have H' := Aside0.mk H
  clear H
  go_enter Try.func33, Try.ntmps33
  go_wp2
  go_loopg [3, 4] k (fun kq v3 v4 w' => ∃ (x3_1 : Int) (x4_1 : Int), v3 = .int .i64 x3_1 ∧ v4 = .int .i64 x4_1 ∧ Aside0 (lacquerref13_picture.l0 kq a0 x3_1 x4_1 = some r) ∧ Aside0 (kq ≤ k) ∧ Drawn0 w w')
  case atStart => exact ⟨(4), (0), (by first | rfl | (simp; done) | (simp [*]; done)), (by first | rfl | (simp; done) | (simp [*]; done)), H', ⟨Nat.le_refl _⟩, by repeat (first | exact Drawn0.refl _ | apply Drawn0.step)⟩
  case round =>
    clear H'
    obtain ⟨x3_1, x4_1, rfl, rfl, HA, HK1, ⟨m1, rfl⟩⟩ := hrel
    cases gk with
    | zero => exact absurd HA.out (by simp [lacquerref13_picture.l0])
    | succ k1 =>
      have H := HA.out
      clear HA
      simp only [lacquerref13_picture.l0] at H
      by_cases c2 : x4_1 < 3
      · rw [if_pos c2] at H
        have c2b0 : decide (x4_1 < 3) = true := decide_eq_true c2
        clear c2
        have HC3 := Aside0.mk H
        clear H
        go_upto_if 11 with (fail)
        go_cut [3] (fun v3 wc => ∃ (kq : Nat) (x3_2 : Int), v3 = .int .i64 x3_2 ∧ Aside0 (lacquerref13_picture.j1 kq a0 x3_2 x4_1 = some r) ∧ Aside0 (kq ≤ k1) ∧ Drawn0 w wc)
        case first =>
          have H := HC3.out
          clear HC3
          by_cases c4 : x4_1 = 2
          · rw [if_pos c4] at H
            have c4b0 : (x4_1 == 2) = true := beq_iff_eq.mpr c4
            have c4b1 : (x4_1 != 2) = false := bne_eq_false_iff_eq.mpr c4
            clear c4
            (first | rw [c4b0] | (simp only [i64_w, i32_w]; rw [c4b0]) | skip)
            have H' := Aside0.mk H
            clear H
            go_wp2
            go_meet
            case rel => exact ⟨_, (wrap64 (x3_1 + 16)), (by first | rfl | (simp; done) | (simp [*]; done)), H', ⟨by have := HK1.out; first | omega | exact Nat.le_refl _⟩, by repeat (first | exact Drawn0.refl _ | apply Drawn0.step)⟩
          · rw [if_neg c4] at H
            have c4b0 : (x4_1 == 2) = false := beq_eq_false_iff_ne.mpr c4
            have c4b1 : (x4_1 != 2) = true := bne_iff_ne.mpr c4
            (first | rw [c4b0] | (simp only [i64_w, i32_w]; rw [c4b0]) | skip)
            have H' := Aside0.mk H
            clear H
            go_wp2
            go_meet
            case rel => exact ⟨_, (x3_1), (by first | rfl | (simp; done) | (simp [*]; done)), H', ⟨by have := HK1.out; first | omega | exact Nat.le_refl _⟩, by repeat (first | exact Drawn0.refl _ | apply Drawn0.step)⟩
        case rest =>
          clear HC3
          try clear c2
          try clear c2b0
          try clear p2
          try clear c3
          try clear c4
          try clear c4b0
          try clear c4b1
          obtain ⟨kq, x3_2, rfl, HA, HJ2, ⟨mc2, rfl⟩⟩ := hcut
          cases kq with
          | zero => exact absurd HA.out (by simp [lacquerref13_picture.j1])
          | succ kj2 =>
            have H := HA.out
            clear HA
            simp only [lacquerref13_picture.j1] at H
            by_cases c5 : (a0.size : Int) < (wrap64 (x3_2 + 4))
            · rw [if_pos c5] at H
              have c5b0 : decide ((a0.size : Int) < (wrap64 (x3_2 + 4))) = true := decide_eq_true c5
              clear c5
              obtain rfl := Option.some.inj H
              go_wp2
              go_ret
              exact ⟨by first | rfl | (simp; done) | (simp [*]; done), by repeat (first | exact Drawn0.refl _ | apply Drawn0.step)⟩
            · rw [if_neg c5] at H
              have c5b0 : decide ((a0.size : Int) < (wrap64 (x3_2 + 4))) = false := decide_eq_false c5
              clear c5
              by_cases c6 : 0 ≤ x3_2
              · rw [if_pos c6] at H
                have c6b0 := eq_true c6
                have c6b1 : decide (0 ≤ x3_2) = true := decide_eq_true c6
                clear c6
                by_cases c7 : x3_2 ≤ (wrap64 (x3_2 + 4))
                · rw [if_pos c7] at H
                  have c7b0 := eq_true c7
                  have c7b1 : decide (x3_2 ≤ (wrap64 (x3_2 + 4))) = true := decide_eq_true c7
                  by_cases c8 : (wrap64 (x3_2 + 4)) ≤ (a0.size : Int)
                  · rw [if_pos c8] at H
                    have c8b0 := eq_true c8
                    have c8b1 : decide ((wrap64 (x3_2 + 4)) ≤ (a0.size : Int)) = true := decide_eq_true c8
                    replace H := Option.bind_eq_some_iff.mp H
                    obtain ⟨t269, A90, H⟩ := H
                    replace H : (if t269 > (wrap64 ((a0.size : Int) - (wrap64 (x3_2 + 4)))) then (some false) else (lacquerref13_picture.l0 kj2 a0 (wrap64 ((wrap64 (x3_2 + 4)) + t269)) (wrap64 (x4_1 + 1)))) = some r := H
                    have A9 := Aside0.mk A90
                    clear A90
                    by_cases c10 : t269 > (wrap64 ((a0.size : Int) - (wrap64 (x3_2 + 4))))
                    · rw [if_pos c10] at H
                      have c10b0 : decide ((wrap64 ((a0.size : Int) - (wrap64 (x3_2 + 4)))) < t269) = true := decide_eq_true c10
                      clear c10
                      obtain rfl := Option.some.inj H
                      go_wp2_with (first | ((with_reducible refine gate_callee (f := 35) rfl ?_); refine goesL_ (some 24) rfl rfl Try.func35 (by kernel_rfl) rfl #[.string (a0.extract (x3_2 : Int).toNat ((wrap64 (x3_2 + 4)) : Int).toNat)] rfl (by (try simp only [List.map_toArray, List.map_cons, List.map_nil]); first | done | rfl | (simp only [List.length_drop, List.length_take]; rfl)) ?_; (with_reducible refine (lacquerref02_FromBe.calls kj2 (a0.extract (x3_2 : Int).toNat ((wrap64 (x3_2 + 4)) : Int).toNat) t269 _ A9.out).mono ?_); rintro e w' ⟨rfl, ⟨nd, rfl⟩⟩; refine ⟨_, rfl, ?_⟩))
                      go_ret
                      exact ⟨by first | rfl | (simp; done) | (simp [*]; done), by repeat (first | exact Drawn0.refl _ | apply Drawn0.step)⟩
                    · rw [if_neg c10] at H
                      have c10b0 : decide ((wrap64 ((a0.size : Int) - (wrap64 (x3_2 + 4)))) < t269) = false := decide_eq_false c10
                      clear c10
                      have H' := Aside0.mk H
                      clear H
                      go_wp2_with (first | ((with_reducible refine gate_callee (f := 35) rfl ?_); refine goesL_ (some 24) rfl rfl Try.func35 (by kernel_rfl) rfl #[.string (a0.extract (x3_2 : Int).toNat ((wrap64 (x3_2 + 4)) : Int).toNat)] rfl (by (try simp only [List.map_toArray, List.map_cons, List.map_nil]); first | done | rfl | (simp only [List.length_drop, List.length_take]; rfl)) ?_; (with_reducible refine (lacquerref02_FromBe.calls kj2 (a0.extract (x3_2 : Int).toNat ((wrap64 (x3_2 + 4)) : Int).toNat) t269 _ A9.out).mono ?_); rintro e w' ⟨rfl, ⟨nd, rfl⟩⟩; refine ⟨_, rfl, ?_⟩))
                      go_roundg kj2
                      case measure => have := HK1.out; have := HJ2.out; omega
                      case rel => exact ⟨(wrap64 ((wrap64 (x3_2 + 4)) + t269)), (wrap64 (x4_1 + 1)), (by first | rfl | (simp; done) | (simp [*]; done)), (by first | rfl | (simp; done) | (simp [*]; done)), H', ⟨by have := HK1.out; have := HJ2.out; omega⟩, by repeat (first | exact Drawn0.refl _ | apply Drawn0.step)⟩
                  · rw [if_neg c8] at H
                    exact absurd H (by simp)
                · rw [if_neg c7] at H
                  exact absurd H (by simp)
              · rw [if_neg c6] at H
                exact absurd H (by simp)
      · rw [if_neg c2] at H
        have c2b0 : decide (x4_1 < 3) = false := decide_eq_false c2
        clear c2
        obtain rfl := Option.some.inj H
        go_wp2
        go_ret
        exact ⟨by first | rfl | (simp; done) | (simp [*]; done), by repeat (first | exact Drawn0.refl _ | apply Drawn0.step)⟩

end Go.Proofs.Ytgihacaegmpggaa.R

/- Numbers in bytes (layer 02's plain laws, over this layer's printed functions). -/
namespace Go.Proofs.Ytgihacaegmpggaa.Be
open Go.RowKit Go.Proofs.Ytgihacaegmpggaa Go.Proofs.Ytgihacaegmpggaa.R Go.Proofs.YtgihacaegmpggaaW.PrintWords Go.Proofs.YtgihacaegmpggaaW.PrintLast Go.Proofs.YtgihacaegmpggaaW.PrintMore
set_option linter.unusedVariables false
set_option linter.unusedSimpArgs false

/-- A number's bytes, the lowest first. -/
def leL : Nat → Int → List Int
  | 0, _ => []
  | w + 1, n => n % 256 :: leL w (n / 256)
theorem leL_length (w : Nat) : ∀ n, (leL w n).length = w := by
  induction w with
  | zero => intro n; rfl
  | succ w ih => intro n; simp [leL, ih]
theorem rev_strOfNums (xs : List Int) : Turn.rev (strOfNums xs) = strOfNums xs.reverse := by
  simp [Turn.rev, strOfNums]
def Valid (n w : Int) : Prop := 1 ≤ w ∧ w ≤ 8 ∧ 0 ≤ n ∧ n < 2 ^ (8 * w.toNat)
theorem d2 (n : Int) : n / 256 / 256 = n / 65536 := by omega
theorem d3 (n : Int) : n / 65536 / 256 = n / 16777216 := by omega
theorem d4 (n : Int) : n / 16777216 / 256 = n / 4294967296 := by omega
theorem d5 (n : Int) : n / 4294967296 / 256 = n / 1099511627776 := by omega
theorem d6 (n : Int) : n / 1099511627776 / 256 = n / 281474976710656 := by omega
theorem d7 (n : Int) : n / 281474976710656 / 256 = n / 72057594037927936 := by omega
theorem Le_ok (n w : Int) (h63 : n < 9223372036854775808) (h : Valid n w) : bytes_Le.f 12 n w = some (strOfNums (leL w.toNat n), 0) := by
  obtain ⟨h1, h2, h3, h4⟩ := h
  have hw : w = 1 ∨ w = 2 ∨ w = 3 ∨ w = 4 ∨ w = 5 ∨ w = 6 ∨ w = 7 ∨ w = 8 := by omega
  rcases hw with rfl | rfl | rfl | rfl | rfl | rfl | rfl | rfl <;>
    simp at h4 <;>
    simp [bytes_Le.f, bytes_Le.j0, bytes_Le.l0, shl, shr, wrap64, IntKind.wrap, IntKind.bits, IntKind.signed, leL, h3, h4, show ¬ n < 0 by omega, d2, d3, d4, d5, d6, d7] <;> (try omega)
theorem Le_no (n w : Int) (h63 : n < 9223372036854775808) (h : ¬ Valid n w) : bytes_Le.f 12 n w = some (⟨#[]⟩, 11) := by
  by_cases h1 : w < 1
  · simp [bytes_Le.f, bytes_Le.j0, h1]
  by_cases h2 : 8 < w
  · simp [bytes_Le.f, bytes_Le.j0, h1, h2]
  by_cases h3 : n < 0
  · simp [bytes_Le.f, bytes_Le.j0, h1, h2, h3]
  have h4 : ¬ n < 2 ^ (8 * w.toNat) := fun h4 => h ⟨by omega, by omega, by omega, h4⟩
  have hw : w = 1 ∨ w = 2 ∨ w = 3 ∨ w = 4 ∨ w = 5 ∨ w = 6 ∨ w = 7 ∨ w = 8 := by omega
  rcases hw with rfl | rfl | rfl | rfl | rfl | rfl | rfl | rfl <;>
    simp at h4 <;>
    simp [bytes_Le.f, bytes_Le.j0, shl, shr, wrap64, IntKind.wrap, IntKind.bits, IntKind.signed, h3, h4] <;> (try omega)
theorem turn_ok (s : ByteArray) (hs : s.size ≤ 140737488355328) : bytes_turn.f s = some (Turn.rev s) := by
  unfold bytes_turn.f
  rw [if_pos (by omega)]
/-- What Le gives. -/
def leR (n w : Int) : ByteArray × Int := if 1 ≤ w ∧ w ≤ 8 ∧ 0 ≤ n ∧ n < 2 ^ (8 * w.toNat) then (strOfNums (leL w.toNat n), 0) else (⟨#[]⟩, 11)
def beR (n w : Int) : ByteArray × Int := if 1 ≤ w ∧ w ≤ 8 ∧ 0 ≤ n ∧ n < 2 ^ (8 * w.toNat) then (strOfNums (leL w.toNat n).reverse, 0) else (⟨#[]⟩, 11)
theorem leR_size (n w : Int) : (leR n w).1.size ≤ 8 := by
  unfold leR
  split
  · rename_i h
    rw [strOfNums_size, leL_length]
    omega
  · simp [ByteArray.size]
theorem beR_rev (n w : Int) : Turn.rev (leR n w).1 = (beR n w).1 ∧ (leR n w).2 = (beR n w).2 := by
  unfold leR beR
  split
  · exact ⟨rev_strOfNums _, rfl⟩
  · exact ⟨by simp [Turn.rev], rfl⟩
theorem Le_ev (n w : Int) (h63 : n < 9223372036854775808) : Ev (fun k => bytes_Le.f k n w) (leR n w) := by
  refine Ev.of (bytes_Le.mono n w) (k := 12) ?_
  unfold leR
  split
  · rename_i h; exact Le_ok n w h63 h
  · rename_i h; exact Le_no n w h63 h
theorem Be_ev (n w : Int) (h63 : n < 9223372036854775808) : Ev (fun k => bytes_Be.f k n w) (beR n w) := by
  refine Ev.bind (Le_ev n w h63) ?_
  rw [turn_ok _ (by have := leR_size n w; omega), Option.bind_some, (beR_rev n w).1, (beR_rev n w).2]
  exact Ev.now _
theorem bytesOf_strOfNums (a : List Int) (h : ∀ x ∈ a, 0 ≤ x ∧ x < 256) : bytesOf (strOfNums a) = a := by
  unfold bytesOf
  rw [strOfNums_data, List.map_map]
  conv => rhs; rw [← List.map_id a]
  refine List.map_congr_left fun x hx => ?_
  have := h x hx
  simp [UInt8.toNat_ofNat']
  omega
/-- The number of the first bytes of a text, the highest first. -/
def fromL (s : ByteArray) : Nat → Int
  | 0 => 0
  | i + 1 => fromL s i * 256 + bt s (i : Nat)
def fbR (s : ByteArray) : Int := if 8 < s.size then -1 else if 9223372036854775808 ≤ fromL s s.size then -1 else fromL s s.size
theorem fromL_range (s : ByteArray) : ∀ i, 0 ≤ fromL s i ∧ fromL s i < 256 ^ i
  | 0 => by simp [fromL]
  | i + 1 => by
    have := fromL_range s i
    have hb := bt_range s (i : Nat)
    simp only [fromL, Int.pow_succ]
    omega
theorem fromL_lt (s : ByteArray) (i : Nat) (h : i < 8) : 0 ≤ fromL s i ∧ fromL s i < 72057594037927936 := by
  have h1 := fromL_range s i
  have h2 : (256 : Int) ^ i ≤ 256 ^ 7 := by
    have : (256 : Nat) ^ i ≤ 256 ^ 7 := Nat.pow_le_pow_right (by omega) (by omega)
    have := Int.ofNat_le.2 this
    simpa using this
  have h3 : (256 : Int) ^ 7 = 72057594037927936 := by decide
  omega
theorem fromL_le (s : ByteArray) (i : Nat) (h : i ≤ 8) : 0 ≤ fromL s i ∧ fromL s i < 18446744073709551616 := by
  rcases i with _ | i
  · simp [fromL]
  · have := fromL_lt s i (by omega)
    have hb := bt_range s (i : Nat)
    simp only [fromL]
    omega
theorem or_u64 (x y : Int) (h0 : 0 ≤ x) (h1 : x < 72057594037927936) (h2 : 0 ≤ y) (h3 : y ≤ 255) : Go.bits .or .u64 (IntKind.u64.wrap (x * 256)) (IntKind.u64.wrap y) = x * 256 + y := by
  have e1 : IntKind.u64.wrap (x * 256) = x * 256 := by simp only [IntKind.wrap, IntKind.bits, IntKind.signed]; simp; omega
  have e2 : IntKind.u64.wrap y = y := by simp only [IntKind.wrap, IntKind.bits, IntKind.signed]; simp; omega
  rw [e1, e2]
  exact bits_join .u64 64 (by decide) (fun n h0 h1 => by simp only [IntKind.wrap, IntKind.bits, IntKind.signed]; simp; omega) 8 _ _ (by omega) (by simp) (by simp; omega) h2 (by simp; omega) (by simp; omega)
theorem FromBe_l0 (s : ByteArray) (hs : s.size ≤ 8) (d : Nat) : ∀ (k i : Nat), i ≤ s.size → s.size - i = d → d < k →
    bytes_FromBe.l0 k s (fromL s i) (s.size : Int) (i : Int) = some (fbR s) := by
  induction d with
  | zero =>
    intro k i h1 h2 h3
    obtain ⟨k, rfl⟩ : ∃ m, k = m + 1 := ⟨k - 1, by omega⟩
    obtain rfl : i = s.size := by omega
    simp only [bytes_FromBe.l0]
    rw [if_neg (by omega)]
    have := fromL_le s s.size hs
    unfold fbR
    rw [if_neg (show ¬ 8 < s.size by omega)]
    by_cases c : 9223372036854775808 ≤ fromL s s.size
    · rw [if_pos c, if_pos c]
    · rw [if_neg c, if_neg c]
      congr 1
      unfold wrap64
      omega
  | succ d ih =>
    intro k i h1 h2 h3
    obtain ⟨k, rfl⟩ : ∃ m, k = m + 1 := ⟨k - 1, by omega⟩
    have hl := fromL_lt s i (by omega)
    have hb := bt_range s (i : Nat)
    simp only [bytes_FromBe.l0]
    rw [if_pos (by omega), if_pos (by omega), if_pos (by omega), or_u64 _ _ hl.1 hl.2 hb.1 hb.2, show wrap64 ((i : Int) + 1) = ((i + 1 : Nat) : Int) by unfold wrap64; omega]
    exact ih k (i + 1) (by omega) (by omega) (by omega)
theorem FromBe_ev (s : ByteArray) : Ev (fun k => bytes_FromBe.f k s) (fbR s) := by
  refine Ev.of (bytes_FromBe.mono s) (k := 9) ?_
  unfold bytes_FromBe.f
  by_cases h : s.size ≤ 8
  · rw [if_neg (by omega)]
    exact FromBe_l0 s h s.size 9 0 (by omega) (by omega) (by omega)
  · rw [if_pos (by omega)]
    unfold fbR
    rw [if_pos (by omega)]
theorem and_mask (x : Int) (i : Nat) (hi : i < 63) : Go.bits .and .i64 x (2 ^ i - 1 : Nat) = x % 2 ^ i := by
  have hlt : (2 : Nat) ^ i - 1 < 18446744073709551616 := by
    have : (2 : Nat) ^ i < 2 ^ 63 := Nat.pow_lt_pow_right (by omega) hi
    omega
  have h2 : (2 : Nat) ^ i < 2 ^ 63 := Nat.pow_lt_pow_right (by omega) hi
  show IntKind.i64.wrap ((BitVec.ofInt 64 x &&& BitVec.ofInt 64 ((2 ^ i - 1 : Nat) : Int)).toNat : Int) = _
  rw [BitVec.toNat_and, BitVec.ofInt_natCast, BitVec.toNat_ofNat, Nat.mod_eq_of_lt (by simpa using hlt), Nat.and_two_pow_sub_one_eq_mod, BitVec.toNat_ofInt]
  have hd : (2 : Int) ^ i ∣ ((2 ^ 64 : Nat) : Int) := by
    have : (2 : Nat) ^ i ∣ 2 ^ 64 := Nat.pow_dvd_pow 2 (by omega)
    have := Int.natCast_dvd_natCast.2 this
    simpa using this
  have h3 : (((x % ((2 ^ 64 : Nat) : Int)).toNat % 2 ^ i : Nat) : Int) = x % 2 ^ i := by
    rw [Int.natCast_emod, Int.toNat_of_nonneg (Int.emod_nonneg _ (by decide))]
    simpa using Int.emod_emod_of_dvd x hd
  rw [h3, IntKind.wrap_i64]
  have h4 : (0 : Int) < 2 ^ i := Int.pow_pos (by decide)
  have h5 : (2 : Int) ^ i < 9223372036854775808 := by
    have := Int.ofNat_lt.2 h2
    simpa using this
  have h6 := Int.emod_nonneg x (show (2 : Int) ^ i ≠ 0 by omega)
  have h7 := Int.emod_lt_of_pos x h4
  omega
theorem and255 (x : Int) : Go.bits .and .i64 x 255 = x % 256 := and_mask x 8 (by decide)
theorem FromBeR_l0 (s : ByteArray) (hs : s.size ≤ 8) (hs8 : fromL s s.size < 9223372036854775808) (d : Nat) : ∀ (k i : Nat), i ≤ s.size → s.size - i = d → d < k →
    lacquerref02_FromBe.l0 k s (fromL s i) (i : Int) = some (fromL s s.size) := by
  induction d with
  | zero =>
    intro k i h1 h2 h3
    obtain ⟨k, rfl⟩ : ∃ m, k = m + 1 := ⟨k - 1, by omega⟩
    obtain rfl : i = s.size := by omega
    simp only [lacquerref02_FromBe.l0]
    rw [if_neg (by omega)]
  | succ d ih =>
    intro k i h1 h2 h3
    obtain ⟨k, rfl⟩ : ∃ m, k = m + 1 := ⟨k - 1, by omega⟩
    have hl := fromL_lt s i (by omega)
    have hb := bt_range s (i : Nat)
    have hn : fromL s (i + 1) < 9223372036854775808 := by
      by_cases c : i + 1 = s.size
      · rw [c]; exact hs8
      · have := fromL_lt s (i + 1) (by omega); omega
    simp only [fromL] at hn
    have e : wrap64 (wrap64 (fromL s i * 256) + wrap64 (bt s (i : Nat))) = fromL s (i + 1) := by
      simp only [fromL]
      unfold wrap64
      omega
    simp only [lacquerref02_FromBe.l0]
    rw [if_pos (by omega), if_pos (by omega), e, show wrap64 ((i : Int) + 1) = ((i + 1 : Nat) : Int) by unfold wrap64; omega]
    exact ih k (i + 1) (by omega) (by omega) (by omega)
theorem fromL_head (s : ByteArray) : ∀ i, 1 ≤ i → bt s 0 * 256 ^ (i - 1) ≤ fromL s i ∧ fromL s i < (bt s 0 + 1) * 256 ^ (i - 1)
  | 0, h => by omega
  | 1, _ => by simp [fromL]; omega
  | i + 2, _ => by
    have := fromL_head s (i + 1) (by omega)
    have hb := bt_range s ((i + 1 : Nat) : Int)
    have e : i + 2 - 1 = (i + 1 - 1) + 1 := by omega
    rw [e, Int.pow_succ, ← Int.mul_assoc, ← Int.mul_assoc]
    have e2 : fromL s (i + 2) = fromL s (i + 1) * 256 + bt s ((i + 1 : Nat) : Int) := rfl
    omega
theorem FromBeR_ev (s : ByteArray) : Ev (fun k => lacquerref02_FromBe.f k s) (fbR s) := by
  refine Ev.of (lacquerref02_FromBe.mono s) (k := 11) ?_
  unfold lacquerref02_FromBe.f fbR
  by_cases h : 8 < s.size
  · rw [if_pos (by omega), if_pos h]
    simp [lacquerref02_FromBe.j0]
  · rw [if_neg (by omega), if_neg h]
    by_cases h8 : s.size = 8
    · have hh := fromL_head s 8 (by omega)
      have e : (256 : Int) ^ (8 - 1) = 72057594037927936 := by decide
      rw [e] at hh
      rw [if_pos (by omega), if_pos (by omega)]
      by_cases c : bt s 0 > 127
      · rw [h8, if_pos (by omega), decide_eq_true c]
        simp [lacquerref02_FromBe.j0]
      · rw [if_neg (by rw [h8]; omega), decide_eq_false c]
        simp only [lacquerref02_FromBe.j0]
        rw [if_neg (by decide)]
        exact FromBeR_l0 s (by omega) (by rw [h8]; omega) s.size 10 0 (by omega) (by omega) (by omega)
    · have hl : fromL s s.size < 9223372036854775808 := by have := fromL_lt s s.size (by omega); omega
      rw [if_neg (by omega), if_neg (by omega)]
      simp only [lacquerref02_FromBe.j0]
      rw [if_neg (by decide)]
      exact FromBeR_l0 s (by omega) hl s.size 10 0 (by omega) (by omega) (by omega)
theorem toList_data (s : ByteArray) : s.toList = s.data.toList :=
  ByteArray.toList_eq s
theorem bt_extract (s : ByteArray) (a b i : Nat) (hb : b ≤ s.size) (hi : a + i < b) : bt (s.extract a b) (i : Nat) = bt s ((a + i : Nat) : Int) := by
  have h1 : i < (s.extract a b).size := by simp; omega
  have h2 : a + i < s.size := by omega
  simp only [bt, Int.toNat_natCast, dif_pos h1, dif_pos h2]
  congr 2
  exact ByteArray.getElem_extract h1
theorem toList_inj {a b : ByteArray} (h : a.toList = b.toList) : a = b := by
  rw [toList_data, toList_data] at h
  apply ByteArray.ext
  exact Array.toList_inj.1 h
theorem leL_bytes (w : Nat) : ∀ n : Int, ∀ x ∈ leL w n, 0 ≤ x ∧ x < 256 := by
  induction w with
  | zero => intro n x hx; simp [leL] at hx
  | succ w ih =>
    intro n x hx
    simp only [leL, List.mem_cons] at hx
    rcases hx with rfl | hx
    · omega
    · exact ih _ x hx
end Go.Proofs.Ytgihacaegmpggaa.Be

/- The plain law of layer 13: which bodies may be (tracks, pictures). -/
namespace Go.Proofs.Ytgihacaegmpggaa.Plain
open Go.RowKit Go.Proofs.Ytgihacaegmpggaa Go.Proofs.Ytgihacaegmpggaa.R Go.Proofs.Ytgihacaegmpggaa.Be Go.Proofs.YtgihacaegmpggaaW.PrintWords Go.Proofs.YtgihacaegmpggaaW.PrintLast Go.Proofs.YtgihacaegmpggaaW.PrintMore
set_option linter.unusedVariables false
set_option linter.unusedSimpArgs false

theorem w64 (x : Int) (h : -9223372036854775808 ≤ x) (h2 : x ≤ 9223372036854775807) : wrap64 x = x := by unfold wrap64; omega
theorem bt_in (s : ByteArray) (i : Int) : 0 ≤ bt s i ∧ bt s i ≤ 255 := by
  unfold bt
  split
  · rename_i h
    have := (s[i.toNat]'h).toNat_lt
    omega
  · omega
theorem toList_nil (s : ByteArray) : (s.toList == ([] : List UInt8)) = decide (s.size = 0) := by
  rw [Be.toList_data]
  have e : s.size = s.data.toList.length := (Array.length_toList (xs := s.data)).symm
  rw [e]
  cases s.data.toList <;> simp
theorem extract_tail (s : ByteArray) (a b : Nat) (ha : a ≤ s.size) : (s.extract a s.size).extract b (s.extract a s.size).size = s.extract (a + b) s.size := by
  rw [ByteArray.extract_extract, ByteArray.size_extract]
  congr 1
  omega
theorem size_tail (s : ByteArray) (a : Nat) : (s.extract a s.size).size = s.size - a := by rw [ByteArray.size_extract]; omega
theorem extract_mid (s : ByteArray) (a b c : Nat) (hc : a + c ≤ s.size) : (s.extract a s.size).extract b c = s.extract (a + b) (a + c) := by
  rw [ByteArray.extract_extract]
  congr 1
  omega

/-- Tracks from a place on. -/
def trk (s : ByteArray) : Nat → Nat → Bool
  | 0, p => decide (p = s.size)
  | n + 1, p => if s.size < p + 36 then false else trk s n (p + 36 + 12 * (bt s ((p + 35 : Nat) : Int)).toNat)
theorem trk_over (s : ByteArray) : ∀ n p, s.size < p → trk s n p = false
  | 0, p, h => decide_eq_false (by omega)
  | n + 1, p, h => by unfold trk; rw [if_pos (by omega)]
def tracksF (s : ByteArray) : Bool := if s.size < 396 then false else if bt s 395 < 1 then false else if 100 < bt s 395 then false else trk s (bt s 395).toNat 396
theorem tracks_l0 (s : ByteArray) (hs : s.size ≤ 140737488355328) (x3 x14 : Int) : ∀ (n p i : Nat), p ≤ s.size → x14 = ((i + n : Nat) : Int) → i + n ≤ 255 →
    Ev (fun k => meta_tracks.l0 k x3 (s.extract p s.size) x14 (i : Nat)) (trk s n p && (decide (1 ≤ x3) && decide (x3 ≤ 100)))
  | 0, p, i, hp, hx, hi => by
    refine Ev.step (f := fun _ => some (trk s 0 p && (decide (1 ≤ x3) && decide (x3 ≤ 100)))) (fun k => ?_) (Ev.now _)
    simp only [meta_tracks.l0]
    rw [if_neg (by omega), toList_nil, size_tail]
    have e : decide (s.size - p = 0) = trk s 0 p := by
      unfold trk
      exact decide_eq_decide.2 (by omega)
    rw [e]
    by_cases h1 : 1 ≤ x3
    · rw [if_pos h1]
      by_cases h2 : x3 ≤ 100
      · rw [if_pos h2, decide_eq_true h1, decide_eq_true h2]
        simp
      · rw [if_neg h2, decide_eq_false h2]
        simp
    · rw [if_neg h1, decide_eq_false h1]
      simp
  | n + 1, p, i, hp, hx, hi => by
    have hsz := size_tail s p
    by_cases h36 : s.size < p + 36
    · have e : trk s (n + 1) p = false := by unfold trk; rw [if_pos h36]
      rw [e]
      refine Ev.step (f := fun _ => some (false && (decide (1 ≤ x3) && decide (x3 ≤ 100)))) (fun k => ?_) (Ev.now _)
      simp only [meta_tracks.l0]
      rw [if_pos (by omega), if_pos (by rw [hsz]; omega)]
      rfl
    · obtain ⟨b, hb⟩ : ∃ b : Nat, bt s ((p + 35 : Nat) : Int) = (b : Int) := ⟨(bt s ((p + 35 : Nat) : Int)).toNat, by have := bt_in s ((p + 35 : Nat) : Int); omega⟩
      have hb2 := bt_in s ((p + 35 : Nat) : Int)
      rw [hb] at hb2
      have e : trk s (n + 1) p = trk s n (p + 36 + 12 * b) := by
        conv => lhs; unfold trk
        rw [if_neg h36, hb, Int.toNat_natCast]
      have hbx : bt (s.extract p s.size) 35 = (b : Int) := by rw [← hb]; exact bt_extract s p s.size 35 (Nat.le_refl _) (by omega)
      have hw : wrap64 (36 + wrap64 (12 * wrap64 (b : Int))) = ((36 + 12 * b : Nat) : Int) := by
        rw [w64 (b : Int) (by omega) (by omega), w64 (12 * (b : Int)) (by omega) (by omega), w64 _ (by omega) (by omega)]
        omega
      rw [e]
      by_cases hlong : s.size < p + (36 + 12 * b)
      · rw [trk_over s n _ (by omega)]
        refine Ev.step (f := fun _ => some (false && (decide (1 ≤ x3) && decide (x3 ≤ 100)))) (fun k => ?_) (Ev.now _)
        simp only [meta_tracks.l0]
        rw [if_pos (by omega), if_neg (by rw [hsz]; omega), if_pos (by rw [hsz]; omega), hbx, hw, if_pos (by rw [hsz]; omega)]
        rfl
      · refine Ev.step (fun k => ?_) (tracks_l0 s hs x3 x14 n (p + 36 + 12 * b) (i + 1) (by omega) (by omega) (by omega))
        simp only [meta_tracks.l0]
        rw [if_pos (by omega), if_neg (by rw [hsz]; omega), if_pos (by rw [hsz]; omega), hbx, hw, if_neg (by rw [hsz]; omega), if_pos (by omega), if_pos (by rw [hsz]; omega),
          Int.toNat_natCast, extract_tail s p _ hp, w64 ((i : Int) + 1) (by omega) (by omega), Nat.add_assoc]
        rfl
theorem tracks_ev (s : ByteArray) (hs : s.size ≤ 140737488355328) : Ev (fun k => meta_tracks.f k s) (tracksF s) := by
  unfold tracksF
  by_cases h : s.size < 396
  · rw [if_pos h]
    refine Ev.congr (f := fun _ => some false) (fun k => ?_) (Ev.now _)
    unfold meta_tracks.f
    rw [if_pos (by omega)]
  · rw [if_neg h]
    obtain ⟨b, hb⟩ : ∃ b : Nat, bt s 395 = (b : Int) := ⟨(bt s 395).toNat, by have := bt_in s 395; omega⟩
    have hb2 := bt_in s 395
    rw [hb] at hb2 ⊢
    have := tracks_l0 s hs b b b 396 0 (by omega) (by omega) (by omega)
    refine Ev.congr (f := fun k => meta_tracks.l0 k b (s.extract 396 s.size) b ((0 : Nat) : Int)) (fun k => ?_) ?_
    · unfold meta_tracks.f
      rw [if_neg (by omega), if_pos (by omega), if_pos (by omega), hb, w64 _ (by omega) (by omega)]
      rfl
    · have e : (if (b : Int) < 1 then false else if 100 < (b : Int) then false else trk s (b : Int).toNat 396) = (trk s b 396 && (decide (1 ≤ (b : Int)) && decide ((b : Int) ≤ 100))) := by
        rw [Int.toNat_natCast]
        by_cases h1 : (b : Int) < 1
        · rw [if_pos h1, decide_eq_false (by omega)]
          simp
        · rw [if_neg h1, decide_eq_true (by omega)]
          by_cases h2 : 100 < (b : Int)
          · rw [if_pos h2, decide_eq_false (by omega)]
            simp
          · rw [if_neg h2, decide_eq_true (by omega)]
            simp
      rw [e]
      exact this
theorem cue_l0 (s : ByteArray) (hs : s.size ≤ 140737488355328) (b : Nat) (hb : bt s 395 = (b : Int)) (hb2 : b ≤ 100) (h396 : 396 ≤ s.size) : ∀ (n p i : Nat), b = i + n → p ≤ 396 + 3096 * i →
    Ev (fun k => lacquerref13_cuesheet.l0 k s (p : Nat) (i : Nat)) (trk s n p)
  | 0, p, i, hx, hp => by
    refine Ev.step (f := fun _ => some (trk s 0 p)) (fun k => ?_) (Ev.now _)
    simp only [lacquerref13_cuesheet.l0]
    rw [if_pos (by omega), hb, w64 _ (by omega) (by omega), if_neg (by omega)]
    congr 1
    unfold trk
    rw [Bool.eq_iff_iff]
    simp
    omega
  | n + 1, p, i, hx, hp => by
    by_cases h36 : s.size < p + 36
    · have e : trk s (n + 1) p = false := by unfold trk; rw [if_pos h36]
      rw [e]
      refine Ev.step (f := fun _ => some false) (fun k => ?_) (Ev.now _)
      simp only [lacquerref13_cuesheet.l0]
      rw [if_pos (by omega), hb, w64 (b : Int) (by omega) (by omega), if_pos (by omega), w64 ((p : Int) + 36) (by omega) (by omega), if_pos (by omega)]
    · obtain ⟨c, hc⟩ : ∃ c : Nat, bt s ((p + 35 : Nat) : Int) = (c : Int) := ⟨(bt s ((p + 35 : Nat) : Int)).toNat, by have := bt_in s ((p + 35 : Nat) : Int); omega⟩
      have hc2 := bt_in s ((p + 35 : Nat) : Int)
      rw [hc] at hc2
      have e : trk s (n + 1) p = trk s n (p + 36 + 12 * c) := by
        conv => lhs; unfold trk
        rw [if_neg h36, hc, Int.toNat_natCast]
      have hw : wrap64 ((p : Int) + wrap64 (36 + wrap64 (12 * wrap64 (c : Int)))) = ((p + 36 + 12 * c : Nat) : Int) := by
        rw [w64 (c : Int) (by omega) (by omega), w64 (12 * (c : Int)) (by omega) (by omega), w64 (36 + 12 * (c : Int)) (by omega) (by omega), w64 _ (by omega) (by omega)]
        omega
      have e35 : wrap64 ((p : Int) + 35) = ((p + 35 : Nat) : Int) := by rw [w64 _ (by omega) (by omega)]; omega
      rw [e]
      refine Ev.step (fun k => ?_) (cue_l0 s hs b hb hb2 h396 n (p + 36 + 12 * c) (i + 1) (by omega) (by omega))
      simp only [lacquerref13_cuesheet.l0]
      rw [if_pos (by omega), hb, w64 (b : Int) (by omega) (by omega), if_pos (by omega), w64 ((p : Int) + 36) (by omega) (by omega), if_neg (by omega), e35, if_pos (by omega), if_pos (by omega), hc, hw, w64 ((i : Int) + 1) (by omega) (by omega)]
      rfl
theorem cue_ev (s : ByteArray) (hs : s.size ≤ 140737488355328) : Ev (fun k => lacquerref13_cuesheet.f k s) (tracksF s) := by
  unfold tracksF
  have hno : Ev (fun k => lacquerref13_cuesheet.j0 k s true) false := Ev.step (f := fun _ => some false) (fun k => by simp only [lacquerref13_cuesheet.j0]; rw [if_pos trivial]) (Ev.now _)
  by_cases h : s.size < 396
  · rw [if_pos h]
    refine Ev.congr (fun k => ?_) hno
    unfold lacquerref13_cuesheet.f
    rw [if_pos (by omega)]
  · rw [if_neg h]
    by_cases h1 : bt s 395 < 1
    · rw [if_pos h1]
      refine Ev.congr (fun k => ?_) hno
      unfold lacquerref13_cuesheet.f
      rw [if_neg (by omega), if_pos (by omega), if_pos h1]
    · rw [if_neg h1]
      by_cases h2 : 100 < bt s 395
      · rw [if_pos h2]
        refine Ev.congr (fun k => ?_) hno
        unfold lacquerref13_cuesheet.f
        rw [if_neg (by omega), if_pos (by omega), if_neg h1, decide_eq_true h2]
      · rw [if_neg h2]
        obtain ⟨b, hb⟩ : ∃ b : Nat, bt s 395 = (b : Int) := ⟨(bt s 395).toNat, by omega⟩
        have := cue_l0 s hs b hb (by omega) (by omega) b 396 0 (by omega) (by omega)
        rw [hb, Int.toNat_natCast]
        refine Ev.congr (f := fun k => lacquerref13_cuesheet.j0 k s false) (fun k => ?_) (Ev.step (fun k => ?_) this)
        · unfold lacquerref13_cuesheet.f
          rw [if_neg (by omega), if_pos (by omega), if_neg h1, decide_eq_false h2]
        · simp only [lacquerref13_cuesheet.j0]
          rw [if_neg (by decide)]
          rfl
end Go.Proofs.Ytgihacaegmpggaa.Plain
