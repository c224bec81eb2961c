/- Printed by a program of ours (pp.sh), partly over contracts proved by hand. -/
import Derived.Test.YtmpkomhcihgphaaQx0
namespace Go.Proofs.Ytmpkomhcihgphaa.Q
open Go.RowKit Go.Proofs.YtmpkomhcihgphaaW.PrintWords Go.Proofs.YtmpkomhcihgphaaW.PrintLast Go.Proofs.YtmpkomhcihgphaaW.PrintMore
attribute [local go_sem] max2_int min2_int max_two min_two max_three min_three max_four min_four   -- for this text's walks alone
set_option linter.unusedVariables false
set_option linter.unusedSimpArgs false

-- NOT PRINTED: function 25 (sums_specs)

-- NOT PRINTED: function 26 (sums_table)

-- NOT PRINTED: function 17 (sums_New)

-- NOT PRINTED: function 19 (sums_Sum_Value)

-- NOT PRINTED: function 20 (sums_Sum_Add)

/-! ### sums_of: function 23 -/
def sums_of.f (a0 : Int) (a1 : ByteArray) : Option (Int) := if Hand.isKind a0 ∧ a1.size ≤ maxLen then some (Hand.sumF a0 a1) else none
theorem sums_of.calls (a0 : Int) (a1 : ByteArray) (r : Int) (w : World) (h : sums_of.f a0 a1 = some r) :
    Calls Try.prog 23 #[.int .i64 a0, .string a1] w fun e w' => e = .returned (.int .i64 r) ∧ Below w.heap.size w w' := by
  unfold sums_of.f at h
  split at h
  · rename_i hb
    have e := Option.some.inj h
    have := Hand.of_any a0 hb.1 a1 hb.2 w
    rw [e] at this
    exact this
  · cases h

/-! ### sums_Crc8: function 8 -/
def sums_Crc8.f (a0 : ByteArray) : Option (Int) := (sums_of.f 8 a0).bind fun t101 => (some t101)
set_option maxHeartbeats 8000000 in
set_option maxRecDepth 100000 in
theorem sums_Crc8.calls (a0 : ByteArray) (r : Int) (w : World) (h : sums_Crc8.f a0 = some r) :
    Calls Try.prog 8 #[.string a0] w fun e w' => e = .returned (.int .i64 r) ∧ Below w.heap.size w w' := by
  have HB := Aside0.mk (Below.refl w.heap.size w)
  have H : ((sums_of.f 8 a0).bind fun t101 => (some t101)) = some r := h
  clear h
  replace H := Option.bind_eq_some_iff.mp H
  obtain ⟨t101, A20, H⟩ := H
  replace H : (some t101) = some r := H
  have A2 := Aside0.mk A20
  clear A20
  obtain rfl := Option.some.inj H
  go_enter Try.func8, Try.ntmps8
  go_wp2_with (first | ((with_reducible refine gate_callee (f := 23) rfl ?_); refine goesL_ (some 4) rfl rfl Try.func23 (by kernel_rfl) rfl #[.int .i64 8, .string a0] rfl (by (try simp only [List.map_toArray, List.map_cons, List.map_nil]); first | done | rfl | (simp only [List.length_drop, List.length_take]; rfl)) ?_; (with_reducible refine (sums_of.calls 8 a0 t101 _ A2.out).mono ?_); rintro e w3 ⟨rfl, hb⟩; refine ⟨_, rfl, ?_⟩; have n0_ := Aside0.mk (below_step (by repeat (first | (with_reducible first | exact HB.out | apply below_alloc | apply pw_below_drewN | apply below_drew1) | exact HB.out)) hb); clear HB; have HB := n0_; clear n0_; (try clear hb); (try clear hb2); (try clear hk); (try clear hi)))
  go_ret
  exact ⟨by first | rfl | (simp [errW_none, errW_some] <;> rfl) | (simp [*, errW_none, errW_some] <;> rfl), by repeat (first | (with_reducible first | exact HB.out | apply below_alloc | apply pw_below_drewN | apply below_drew1) | exact HB.out)⟩

/-! ### lacquerref03_sum: function 24 -/
mutual
def lacquerref03_sum.l0 : Nat → ByteArray → Int → Int → Int → Int → Int → Option (Int)
  | 0, _, _, _, _, _, _ => none
  | k + 1, x0, x2, x7, x8, x9, x10 => if x10 < (x0.size : Int) then (lacquerref03_sum.l1 k x0 x2 x7 x8 x9 x10 7) else (some x9)
def lacquerref03_sum.l1 : Nat → ByteArray → Int → Int → Int → Int → Int → Int → Option (Int)
  | 0, _, _, _, _, _, _, _ => none
  | k + 1, x0, x2, x7, x8, x9, x10, x11 => if x11 ≥ 0 then (if 0 ≤ x10 then (if x10 < (x0.size : Int) then (if 0 ≤ (IntKind.u64.wrap (x11)) then (if (Go.bits .and .i64 x9 x7) = 0 then (if 0 = (Go.bits .and .i64 (wrap64 (shr .u8 (bt x0 x10) (IntKind.u64.wrap (x11)))) 1) then (lacquerref03_sum.l1 k x0 x2 x7 x8 (Go.bits .and .i64 (wrap64 (x9 * 2)) x8) x10 (wrap64 (x11 - 1))) else (lacquerref03_sum.l1 k x0 x2 x7 x8 (Go.bits .xor .i64 (Go.bits .and .i64 (wrap64 (x9 * 2)) x8) x2) x10 (wrap64 (x11 - 1)))) else (if 1 = (Go.bits .and .i64 (wrap64 (shr .u8 (bt x0 x10) (IntKind.u64.wrap (x11)))) 1) then (lacquerref03_sum.l1 k x0 x2 x7 x8 (Go.bits .and .i64 (wrap64 (x9 * 2)) x8) x10 (wrap64 (x11 - 1))) else (lacquerref03_sum.l1 k x0 x2 x7 x8 (Go.bits .xor .i64 (Go.bits .and .i64 (wrap64 (x9 * 2)) x8) x2) x10 (wrap64 (x11 - 1))))) else (none)) else (none)) else (none)) else (lacquerref03_sum.l0 k x0 x2 x7 x8 x9 (wrap64 (x10 + 1)))
end
def lacquerref03_sum.f (k : Nat) (a0 : ByteArray) (a1 : Int) (a2 : Int) : Option (Int) := if 0 ≤ (IntKind.u64.wrap (wrap64 (a1 - 1))) then (if 0 ≤ (IntKind.u64.wrap (a1)) then (lacquerref03_sum.l0 k a0 a2 (shl .i64 1 (IntKind.u64.wrap (wrap64 (a1 - 1)))) (wrap64 ((shl .i64 1 (IntKind.u64.wrap (a1))) - 1)) 0 0) else (none)) else (none)
theorem lacquerref03_sum.mono_l : ∀ k, (∀ y0 y1 y2 y3 y4 y5, LeO (lacquerref03_sum.l0 k y0 y1 y2 y3 y4 y5) (lacquerref03_sum.l0 (k + 1) y0 y1 y2 y3 y4 y5)) ∧ (∀ y0 y1 y2 y3 y4 y5 y6, LeO (lacquerref03_sum.l1 k y0 y1 y2 y3 y4 y5 y6) (lacquerref03_sum.l1 (k + 1) y0 y1 y2 y3 y4 y5 y6))
  | 0 => ⟨fun _ _ _ _ _ _ r h => by simp [lacquerref03_sum.l0] at h, fun _ _ _ _ _ _ _ r h => by simp [lacquerref03_sum.l1] at h⟩
  | k + 1 => by
    obtain ⟨ih0, ih1⟩ := lacquerref03_sum.mono_l k
    refine ⟨?_, ?_⟩
    · intro y0 y1 y2 y3 y4 y5
      unfold lacquerref03_sum.l0
      repeat' first
      | (with_reducible exact ih0 _ _ _ _ _ _)
      | (with_reducible exact ih1 _ _ _ _ _ _ _)
      | (with_reducible exact LeO.refl _)
      | (with_reducible exact LeO.none _)
      | (with_reducible refine LeO.ite ?_ ?_)
      | (with_reducible refine LeO.bind ?_ (fun _ => ?_))
      | exact ih0 _ _ _ _ _ _
      | exact ih1 _ _ _ _ _ _ _
      | exact LeO.none _
      | refine LeO.ite ?_ ?_
      | refine LeO.bind ?_ (fun _ => ?_)
    · intro y0 y1 y2 y3 y4 y5 y6
      unfold lacquerref03_sum.l1
      repeat' first
      | (with_reducible exact ih0 _ _ _ _ _ _)
      | (with_reducible exact ih1 _ _ _ _ _ _ _)
      | (with_reducible exact LeO.refl _)
      | (with_reducible exact LeO.none _)
      | (with_reducible refine LeO.ite ?_ ?_)
      | (with_reducible refine LeO.bind ?_ (fun _ => ?_))
      | exact ih0 _ _ _ _ _ _
      | exact ih1 _ _ _ _ _ _ _
      | exact LeO.none _
      | refine LeO.ite ?_ ?_
      | refine LeO.bind ?_ (fun _ => ?_)
theorem lacquerref03_sum.mono : ∀ a0 a1 a2 k, LeO (lacquerref03_sum.f k a0 a1 a2) (lacquerref03_sum.f (k + 1) a0 a1 a2) := by
  intro a0 a1 a2 k
  obtain ⟨ih0, ih1⟩ := lacquerref03_sum.mono_l k
  unfold lacquerref03_sum.f
  repeat' first
      | (with_reducible exact ih0 _ _ _ _ _ _)
      | (with_reducible exact ih1 _ _ _ _ _ _ _)
      | (with_reducible exact LeO.refl _)
      | (with_reducible exact LeO.none _)
      | (with_reducible refine LeO.ite ?_ ?_)
      | (with_reducible refine LeO.bind ?_ (fun _ => ?_))
      | exact ih0 _ _ _ _ _ _
      | exact ih1 _ _ _ _ _ _ _
      | exact LeO.none _
      | refine LeO.ite ?_ ?_
      | refine LeO.bind ?_ (fun _ => ?_)
set_option maxHeartbeats 8000000 in
set_option maxRecDepth 100000 in
theorem lacquerref03_sum.calls (k : Nat) (a0 : ByteArray) (a1 : Int) (a2 : Int) (r : Int) (w : World) (h : lacquerref03_sum.f k a0 a1 a2 = some r) :
    Calls Try.prog 24 #[.string a0, .int .i64 a1, .int .i64 a2] w fun e w' => e = .returned (.int .i64 r) ∧ Drawn0 w w' := by
  have H : (if 0 ≤ (IntKind.u64.wrap (wrap64 (a1 - 1))) then (if 0 ≤ (IntKind.u64.wrap (a1)) then (lacquerref03_sum.l0 k a0 a2 (shl .i64 1 (IntKind.u64.wrap (wrap64 (a1 - 1)))) (wrap64 ((shl .i64 1 (IntKind.u64.wrap (a1))) - 1)) 0 0) else (none)) else (none)) = some r := h
  clear h
  obtain ⟨ji4, hji4⟩ : ∃ j_ : Int, (IntKind.u64.wrap (wrap64 (a1 - 1))) = j_ := ⟨_, rfl⟩
  replace H : (if 0 ≤ (ji4) then (if 0 ≤ (IntKind.u64.wrap (a1)) then (lacquerref03_sum.l0 k a0 a2 (shl .i64 1 (ji4)) (wrap64 ((shl .i64 1 (IntKind.u64.wrap (a1))) - 1)) 0 0) else (none)) else (none)) = some r := by first | (rw [hji4] at H; exact H) | (simp only [hji4] at H ⊢; exact H)
  by_cases c5 : 0 ≤ (ji4)
  · rw [if_pos c5] at H
    have c5b0 := eq_true c5
    have c5b1 : decide (0 ≤ (ji4)) = true := decide_eq_true c5
    clear c5
    obtain ⟨ji6, hji6⟩ : ∃ j_ : Int, (shl .i64 1 (ji4)) = j_ := ⟨_, rfl⟩
    replace H : (if 0 ≤ (IntKind.u64.wrap (a1)) then (lacquerref03_sum.l0 k a0 a2 ji6 (wrap64 ((shl .i64 1 (IntKind.u64.wrap (a1))) - 1)) 0 0) else (none)) = some r := by first | (rw [hji6] at H; exact H) | (simp only [hji6] at H ⊢; exact H)
    have hji6_ : (IntKind.i64.wrap (1 * 2 ^ min (ji4).toNat 64)) = ji6 := hji6
    have hji6z : (ji4) ≤ 64 → (IntKind.i64.wrap (1 * 2 ^ (ji4).toNat)) = ji6 := shl_small hji6
    have hji6u : (IntKind.i64.wrap (2 ^ min (ji4).toNat 64)) = ji6 := by have h_ := hji6_; rw [Int.one_mul] at h_; exact h_
    have hji6v : (ji4) ≤ 64 → (IntKind.i64.wrap (2 ^ (ji4).toNat)) = ji6 := fun hle_ => by have h_ := hji6z hle_; rw [Int.one_mul] at h_; exact h_
    have hji6y : (wrap64 (1 * 2 ^ min (ji4).toNat 64)) = ji6 := (i64_w _).symm.trans hji6_
    have hji6x : (ji4) ≤ 64 → (wrap64 (1 * 2 ^ (ji4).toNat)) = ji6 := fun h_ => (i64_w _).symm.trans (hji6z h_)
    obtain ⟨ji7, hji7⟩ : ∃ j_ : Int, (IntKind.u64.wrap (a1)) = j_ := ⟨_, rfl⟩
    replace H : (if 0 ≤ (ji7) then (lacquerref03_sum.l0 k a0 a2 ji6 (wrap64 ((shl .i64 1 (ji7)) - 1)) 0 0) else (none)) = some r := by first | (rw [hji7] at H; exact H) | (simp only [hji7] at H ⊢; exact H)
    by_cases c8 : 0 ≤ (ji7)
    · rw [if_pos c8] at H
      have c8b0 := eq_true c8
      have c8b1 : decide (0 ≤ (ji7)) = true := decide_eq_true c8
      clear c8
      obtain ⟨ji9, hji9⟩ : ∃ j_ : Int, (shl .i64 1 (ji7)) = j_ := ⟨_, rfl⟩
      replace H : (lacquerref03_sum.l0 k a0 a2 ji6 (wrap64 ((ji9) - 1)) 0 0) = some r := by first | (rw [hji9] at H; exact H) | (simp only [hji9] at H ⊢; exact H)
      have hji9_ : (IntKind.i64.wrap (1 * 2 ^ min (ji7).toNat 64)) = ji9 := hji9
      have hji9z : (ji7) ≤ 64 → (IntKind.i64.wrap (1 * 2 ^ (ji7).toNat)) = ji9 := shl_small hji9
      have hji9u : (IntKind.i64.wrap (2 ^ min (ji7).toNat 64)) = ji9 := by have h_ := hji9_; rw [Int.one_mul] at h_; exact h_
      have hji9v : (ji7) ≤ 64 → (IntKind.i64.wrap (2 ^ (ji7).toNat)) = ji9 := fun hle_ => by have h_ := hji9z hle_; rw [Int.one_mul] at h_; exact h_
      have hji9y : (wrap64 (1 * 2 ^ min (ji7).toNat 64)) = ji9 := (i64_w _).symm.trans hji9_
      have hji9x : (ji7) ≤ 64 → (wrap64 (1 * 2 ^ (ji7).toNat)) = ji9 := fun h_ => (i64_w _).symm.trans (hji9z h_)
      have H' := Aside0.mk H
      clear H
      go_enter Try.func24, Try.ntmps24
      go_wp2
      go_loopg [9, 10] k (fun kq v9 v10 w' => ∃ (x9_1 : Int) (x10_1 : Int), v9 = .int .i64 x9_1 ∧ v10 = .int .i64 x10_1 ∧ Aside0 (lacquerref03_sum.l0 kq a0 a2 ji6 (wrap64 ((ji9) - 1)) x9_1 x10_1 = some r) ∧ Aside0 (kq ≤ k) ∧ Drawn0 w w')
      case atStart => exact ⟨(0), (0), (by first | rfl | (simp; done) | (simp [*]; done)), (by first | rfl | (simp; done) | (simp [*]; done)), H', ⟨Nat.le_refl _⟩, by repeat (first | exact Drawn0.refl _ | apply Drawn0.step)⟩
      case round =>
        clear H'
        try clear c2
        try clear p2
        try clear c5
        try clear c5b0
        try clear c5b1
        try clear p6
        try clear c8
        try clear c8b0
        try clear c8b1
        obtain ⟨x9_1, x10_1, rfl, rfl, HA, HK1, ⟨m1, rfl⟩⟩ := hrel
        cases gk with
        | zero => exact absurd HA.out (by simp [lacquerref03_sum.l0])
        | succ k1 =>
          have H := HA.out
          clear HA
          simp only [lacquerref03_sum.l0] at H
          by_cases c10 : x10_1 < (a0.size : Int)
          · rw [if_pos c10] at H
            have c10b0 : decide (x10_1 < (a0.size : Int)) = true := decide_eq_true c10
            clear c10
            have H' := Aside0.mk H
            clear H
            go_wp2
            go_loopg [9, 11] k1 (fun kq v9 v11 w' => ∃ (x9_2 : Int) (x11_2 : Int), v9 = .int .i64 x9_2 ∧ v11 = .int .i64 x11_2 ∧ Aside0 (lacquerref03_sum.l1 kq a0 a2 ji6 (wrap64 ((ji9) - 1)) x9_2 x10_1 x11_2 = some r) ∧ Aside0 (kq ≤ k1) ∧ Drawn0 w w')
            case atStart => exact ⟨(x9_1), (7), (by first | rfl | (simp; done) | (simp [*]; done)), (by first | rfl | (simp; done) | (simp [*]; done)), H', ⟨Nat.le_refl _⟩, by repeat (first | exact Drawn0.refl _ | apply Drawn0.step)⟩
            case round =>
              clear H'
              try clear c1
              try clear c2
              try clear p2
              try clear c5
              try clear c5b0
              try clear c5b1
              try clear p6
              try clear c8
              try clear c8b0
              try clear c8b1
              try clear c10
              try clear c10b0
              try clear p2
              try clear p6
              obtain ⟨x9_2, x11_2, rfl, rfl, HA, HK2, ⟨m2, rfl⟩⟩ := hrel
              cases gk with
              | zero => exact absurd HA.out (by simp [lacquerref03_sum.l1])
              | succ k2 =>
                have H := HA.out
                clear HA
                simp only [lacquerref03_sum.l1] at H
                by_cases c11 : x11_2 ≥ 0
                · rw [if_pos c11] at H
                  have c11b0 : decide (0 ≤ x11_2) = true := decide_eq_true c11
                  clear c11
                  by_cases c12 : 0 ≤ x10_1
                  · rw [if_pos c12] at H
                    have c12b0 : decide (0 ≤ x10_1) = true := decide_eq_true c12
                    clear c12
                    by_cases c13 : x10_1 < (a0.size : Int)
                    · rw [if_pos c13] at H
                      have c13b0 : decide (x10_1 < (a0.size : Int)) = true := decide_eq_true c13
                      clear c13
                      obtain ⟨ji15, hji15⟩ : ∃ j_ : Int, (IntKind.u64.wrap (x11_2)) = j_ := ⟨_, rfl⟩
                      replace H : (if 0 ≤ (ji15) then (if (Go.bits .and .i64 x9_2 ji6) = 0 then (if 0 = (Go.bits .and .i64 (wrap64 (shr .u8 (bt a0 x10_1) (ji15))) 1) then (lacquerref03_sum.l1 k2 a0 a2 ji6 (wrap64 ((ji9) - 1)) (Go.bits .and .i64 (wrap64 (x9_2 * 2)) (wrap64 ((ji9) - 1))) x10_1 (wrap64 (x11_2 - 1))) else (lacquerref03_sum.l1 k2 a0 a2 ji6 (wrap64 ((ji9) - 1)) (Go.bits .xor .i64 (Go.bits .and .i64 (wrap64 (x9_2 * 2)) (wrap64 ((ji9) - 1))) a2) x10_1 (wrap64 (x11_2 - 1)))) else (if 1 = (Go.bits .and .i64 (wrap64 (shr .u8 (bt a0 x10_1) (ji15))) 1) then (lacquerref03_sum.l1 k2 a0 a2 ji6 (wrap64 ((ji9) - 1)) (Go.bits .and .i64 (wrap64 (x9_2 * 2)) (wrap64 ((ji9) - 1))) x10_1 (wrap64 (x11_2 - 1))) else (lacquerref03_sum.l1 k2 a0 a2 ji6 (wrap64 ((ji9) - 1)) (Go.bits .xor .i64 (Go.bits .and .i64 (wrap64 (x9_2 * 2)) (wrap64 ((ji9) - 1))) a2) x10_1 (wrap64 (x11_2 - 1))))) else (none)) = some r := by first | (rw [hji15] at H; exact H) | (simp only [hji15] at H ⊢; exact H)
                      by_cases c16 : 0 ≤ (ji15)
                      · rw [if_pos c16] at H
                        have c16b0 := eq_true c16
                        have c16b1 : decide (0 ≤ (ji15)) = true := decide_eq_true c16
                        clear c16
                        obtain ⟨ji17, hji17⟩ : ∃ j_ : Int, (shr .u8 (bt a0 x10_1) (ji15)) = j_ := ⟨_, rfl⟩
                        replace H : (if (Go.bits .and .i64 x9_2 ji6) = 0 then (if 0 = (Go.bits .and .i64 (wrap64 (ji17)) 1) then (lacquerref03_sum.l1 k2 a0 a2 ji6 (wrap64 ((ji9) - 1)) (Go.bits .and .i64 (wrap64 (x9_2 * 2)) (wrap64 ((ji9) - 1))) x10_1 (wrap64 (x11_2 - 1))) else (lacquerref03_sum.l1 k2 a0 a2 ji6 (wrap64 ((ji9) - 1)) (Go.bits .xor .i64 (Go.bits .and .i64 (wrap64 (x9_2 * 2)) (wrap64 ((ji9) - 1))) a2) x10_1 (wrap64 (x11_2 - 1)))) else (if 1 = (Go.bits .and .i64 (wrap64 (ji17)) 1) then (lacquerref03_sum.l1 k2 a0 a2 ji6 (wrap64 ((ji9) - 1)) (Go.bits .and .i64 (wrap64 (x9_2 * 2)) (wrap64 ((ji9) - 1))) x10_1 (wrap64 (x11_2 - 1))) else (lacquerref03_sum.l1 k2 a0 a2 ji6 (wrap64 ((ji9) - 1)) (Go.bits .xor .i64 (Go.bits .and .i64 (wrap64 (x9_2 * 2)) (wrap64 ((ji9) - 1))) a2) x10_1 (wrap64 (x11_2 - 1))))) = some r := by first | (rw [hji17] at H; exact H) | (simp only [hji17] at H ⊢; exact H)
                        have hji17_ : ((bt a0 x10_1) / 2 ^ min (ji15).toNat 8) = ji17 := hji17
                        have hji17z : (ji15) ≤ 8 → ((bt a0 x10_1) / 2 ^ (ji15).toNat) = ji17 := shr_small hji17
                        by_cases c18 : (Go.bits .and .i64 x9_2 ji6) = 0
                        · rw [if_pos c18] at H
                          have c18b0 : ((Go.bits .and .i64 x9_2 ji6) == 0) = true := beq_iff_eq.mpr c18
                          have c18b1 : ((Go.bits .and .i64 x9_2 ji6) != 0) = false := bne_eq_false_iff_eq.mpr c18
                          clear c18
                          by_cases c19 : 0 = (Go.bits .and .i64 (wrap64 (ji17)) 1)
                          · rw [if_pos c19] at H
                            have c19b0 : (0 == (Go.bits .and .i64 (wrap64 (ji17)) 1)) = true := beq_iff_eq.mpr c19
                            have c19b1 : (0 != (Go.bits .and .i64 (wrap64 (ji17)) 1)) = false := bne_eq_false_iff_eq.mpr c19
                            clear c19
                            have H' := Aside0.mk H
                            clear H
                            have p14 : 0 ≤ (x10_1 : Int) := of_decide_eq_true (by first | (with_reducible assumption) | assumption)
                            have q14 : x10_1 < (a0.size : Int) := of_decide_eq_true (by first | (with_reducible assumption) | assumption)
                            have hx14 := bt_at a0 x10_1
                            replace p14 := eq_true p14
                            replace q14 := eq_true q14
                            go_wp2
                            go_roundg k2
                            case measure => have := HK1.out; have := HK2.out; omega
                            case rel => exact ⟨(Go.bits .and .i64 (wrap64 (x9_2 * 2)) (wrap64 ((ji9) - 1))), (wrap64 (x11_2 - 1)), (by first | rfl | (simp; done) | (simp only [← hji9] <;> (first | rfl | simp)) | (simp [*]; done)), (by first | rfl | (simp; done) | (simp [*]; done)), H', ⟨by have := HK1.out; have := HK2.out; omega⟩, by repeat (first | exact Drawn0.refl _ | apply Drawn0.step)⟩
                          · rw [if_neg c19] at H
                            have c19b0 : (0 == (Go.bits .and .i64 (wrap64 (ji17)) 1)) = false := beq_eq_false_iff_ne.mpr c19
                            have c19b1 : (0 != (Go.bits .and .i64 (wrap64 (ji17)) 1)) = true := bne_iff_ne.mpr c19
                            have H' := Aside0.mk H
                            clear H
                            have p14 : 0 ≤ (x10_1 : Int) := of_decide_eq_true (by first | (with_reducible assumption) | assumption)
                            have q14 : x10_1 < (a0.size : Int) := of_decide_eq_true (by first | (with_reducible assumption) | assumption)
                            have hx14 := bt_at a0 x10_1
                            replace p14 := eq_true p14
                            replace q14 := eq_true q14
                            go_wp2
                            go_roundg k2
                            case measure => have := HK1.out; have := HK2.out; omega
                            case rel => exact ⟨(Go.bits .xor .i64 (Go.bits .and .i64 (wrap64 (x9_2 * 2)) (wrap64 ((ji9) - 1))) a2), (wrap64 (x11_2 - 1)), (by first | rfl | (simp; done) | (simp only [← hji9] <;> (first | rfl | simp)) | (simp [*]; done)), (by first | rfl | (simp; done) | (simp [*]; done)), H', ⟨by have := HK1.out; have := HK2.out; omega⟩, by repeat (first | exact Drawn0.refl _ | apply Drawn0.step)⟩
                        · rw [if_neg c18] at H
                          have c18b0 : ((Go.bits .and .i64 x9_2 ji6) == 0) = false := beq_eq_false_iff_ne.mpr c18
                          have c18b1 : ((Go.bits .and .i64 x9_2 ji6) != 0) = true := bne_iff_ne.mpr c18
                          by_cases c20 : 1 = (Go.bits .and .i64 (wrap64 (ji17)) 1)
                          · rw [if_pos c20] at H
                            have c20b0 : (1 == (Go.bits .and .i64 (wrap64 (ji17)) 1)) = true := beq_iff_eq.mpr c20
                            have c20b1 : (1 != (Go.bits .and .i64 (wrap64 (ji17)) 1)) = false := bne_eq_false_iff_eq.mpr c20
                            clear c20
                            have H' := Aside0.mk H
                            clear H
                            have p14 : 0 ≤ (x10_1 : Int) := of_decide_eq_true (by first | (with_reducible assumption) | assumption)
                            have q14 : x10_1 < (a0.size : Int) := of_decide_eq_true (by first | (with_reducible assumption) | assumption)
                            have hx14 := bt_at a0 x10_1
                            replace p14 := eq_true p14
                            replace q14 := eq_true q14
                            go_wp2
                            go_roundg k2
                            case measure => have := HK1.out; have := HK2.out; omega
                            case rel => exact ⟨(Go.bits .and .i64 (wrap64 (x9_2 * 2)) (wrap64 ((ji9) - 1))), (wrap64 (x11_2 - 1)), (by first | rfl | (simp; done) | (simp only [← hji9] <;> (first | rfl | simp)) | (simp [*]; done)), (by first | rfl | (simp; done) | (simp [*]; done)), H', ⟨by have := HK1.out; have := HK2.out; omega⟩, by repeat (first | exact Drawn0.refl _ | apply Drawn0.step)⟩
                          · rw [if_neg c20] at H
                            have c20b0 : (1 == (Go.bits .and .i64 (wrap64 (ji17)) 1)) = false := beq_eq_false_iff_ne.mpr c20
                            have c20b1 : (1 != (Go.bits .and .i64 (wrap64 (ji17)) 1)) = true := bne_iff_ne.mpr c20
                            have H' := Aside0.mk H
                            clear H
                            have p14 : 0 ≤ (x10_1 : Int) := of_decide_eq_true (by first | (with_reducible assumption) | assumption)
                            have q14 : x10_1 < (a0.size : Int) := of_decide_eq_true (by first | (with_reducible assumption) | assumption)
                            have hx14 := bt_at a0 x10_1
                            replace p14 := eq_true p14
                            replace q14 := eq_true q14
                            go_wp2
                            go_roundg k2
                            case measure => have := HK1.out; have := HK2.out; omega
                            case rel => exact ⟨(Go.bits .xor .i64 (Go.bits .and .i64 (wrap64 (x9_2 * 2)) (wrap64 ((ji9) - 1))) a2), (wrap64 (x11_2 - 1)), (by first | rfl | (simp; done) | (simp only [← hji9] <;> (first | rfl | simp)) | (simp [*]; done)), (by first | rfl | (simp; done) | (simp [*]; done)), H', ⟨by have := HK1.out; have := HK2.out; omega⟩, by repeat (first | exact Drawn0.refl _ | apply Drawn0.step)⟩
                      · rw [if_neg c16] at H
                        exact absurd H (by simp)
                    · rw [if_neg c13] at H
                      exact absurd H (by simp)
                  · rw [if_neg c12] at H
                    exact absurd H (by simp)
                · rw [if_neg c11] at H
                  have c11b0 : decide (0 ≤ x11_2) = false := decide_eq_false c11
                  clear c11
                  have H' := Aside0.mk H
                  clear H
                  go_wp2
                  go_roundg k2
                  case measure => have := HK1.out; have := HK2.out; omega
                  case rel => exact ⟨(x9_2), (wrap64 (x10_1 + 1)), (by first | rfl | (simp; done) | (simp [*]; done)), (by first | rfl | (simp; done) | (simp [*]; done)), H', ⟨by have := HK1.out; have := HK2.out; omega⟩, by repeat (first | exact Drawn0.refl _ | apply Drawn0.step)⟩
          · rw [if_neg c10] at H
            have c10b0 : decide (x10_1 < (a0.size : Int)) = false := decide_eq_false c10
            clear c10
            obtain rfl := Option.some.inj H
            go_wp2
            go_ret
            exact ⟨by first | rfl | (simp; done) | (simp only [← hji4, ← hji6, ← hji7, ← hji9] <;> (first | rfl | simp)) | (simp [*]; done), by repeat (first | exact Drawn0.refl _ | apply Drawn0.step)⟩
    · rw [if_neg c8] at H
      exact absurd H (by simp)
  · rw [if_neg c5] at H
    exact absurd H (by simp)

/-! ### lacquerref03_Crc8: function 9 -/
def lacquerref03_Crc8.f (k : Nat) (a0 : ByteArray) : Option (Int) := (lacquerref03_sum.f k a0 8 7).bind fun t102 => (some t102)
theorem lacquerref03_Crc8.mono : ∀ a0 k, LeO (lacquerref03_Crc8.f k a0) (lacquerref03_Crc8.f (k + 1) a0) := by
  intro a0 k
  unfold lacquerref03_Crc8.f
  repeat' first
      | (with_reducible exact lacquerref03_sum.mono _ _ _ _)
      | (with_reducible exact LeO.refl _)
      | (with_reducible exact LeO.none _)
      | (with_reducible refine LeO.ite ?_ ?_)
      | (with_reducible refine LeO.bind ?_ (fun _ => ?_))
      | exact lacquerref03_sum.mono _ _ _ _
      | exact LeO.none _
      | refine LeO.ite ?_ ?_
      | refine LeO.bind ?_ (fun _ => ?_)
set_option maxHeartbeats 8000000 in
set_option maxRecDepth 100000 in
theorem lacquerref03_Crc8.calls (k : Nat) (a0 : ByteArray) (r : Int) (w : World) (h : lacquerref03_Crc8.f k a0 = some r) :
    Calls Try.prog 9 #[.string a0] w fun e w' => e = .returned (.int .i64 r) ∧ Drawn0 w w' := by
  have H : ((lacquerref03_sum.f k a0 8 7).bind fun t102 => (some t102)) = some r := h
  clear h
  replace H := Option.bind_eq_some_iff.mp H
  obtain ⟨t102, A20, H⟩ := H
  replace H : (some t102) = some r := H
  have A2 := Aside0.mk A20
  clear A20
  obtain rfl := Option.some.inj H
  go_enter Try.func9, Try.ntmps9
  go_wp2_with (first | ((with_reducible refine gate_callee (f := 24) rfl ?_); refine goesL_ (some 4) rfl rfl Try.func24 (by kernel_rfl) rfl #[.string a0, .int .i64 8, .int .i64 7] rfl (by (try simp only [List.map_toArray, List.map_cons, List.map_nil]); first | done | rfl | (simp only [List.length_drop, List.length_take]; rfl)) ?_; (with_reducible refine (lacquerref03_sum.calls k a0 8 7 t102 _ A2.out).mono ?_); rintro e w' ⟨rfl, ⟨nd, rfl⟩⟩; refine ⟨_, rfl, ?_⟩))
  go_ret
  exact ⟨by first | rfl | (simp; done) | (simp [*]; done), by repeat (first | exact Drawn0.refl _ | apply Drawn0.step)⟩

/-! ### sums_Crc16: function 10 -/
def sums_Crc16.f (a0 : ByteArray) : Option (Int) := (sums_of.f 16 a0).bind fun t103 => (some t103)
set_option maxHeartbeats 8000000 in
set_option maxRecDepth 100000 in
theorem sums_Crc16.calls (a0 : ByteArray) (r : Int) (w : World) (h : sums_Crc16.f a0 = some r) :
    Calls Try.prog 10 #[.string a0] w fun e w' => e = .returned (.int .i64 r) ∧ Below w.heap.size w w' := by
  have HB := Aside0.mk (Below.refl w.heap.size w)
  have H : ((sums_of.f 16 a0).bind fun t103 => (some t103)) = some r := h
  clear h
  replace H := Option.bind_eq_some_iff.mp H
  obtain ⟨t103, A20, H⟩ := H
  replace H : (some t103) = some r := H
  have A2 := Aside0.mk A20
  clear A20
  obtain rfl := Option.some.inj H
  go_enter Try.func10, Try.ntmps10
  go_wp2_with (first | ((with_reducible refine gate_callee (f := 23) rfl ?_); refine goesL_ (some 4) rfl rfl Try.func23 (by kernel_rfl) rfl #[.int .i64 16, .string a0] rfl (by (try simp only [List.map_toArray, List.map_cons, List.map_nil]); first | done | rfl | (simp only [List.length_drop, List.length_take]; rfl)) ?_; (with_reducible refine (sums_of.calls 16 a0 t103 _ A2.out).mono ?_); rintro e w3 ⟨rfl, hb⟩; refine ⟨_, rfl, ?_⟩; have n0_ := Aside0.mk (below_step (by repeat (first | (with_reducible first | exact HB.out | apply below_alloc | apply pw_below_drewN | apply below_drew1) | exact HB.out)) hb); clear HB; have HB := n0_; clear n0_; (try clear hb); (try clear hb2); (try clear hk); (try clear hi)))
  go_ret
  exact ⟨by first | rfl | (simp [errW_none, errW_some] <;> rfl) | (simp [*, errW_none, errW_some] <;> rfl), by repeat (first | (with_reducible first | exact HB.out | apply below_alloc | apply pw_below_drewN | apply below_drew1) | exact HB.out)⟩

/-! ### lacquerref03_Crc16: function 11 -/
def lacquerref03_Crc16.f (k : Nat) (a0 : ByteArray) : Option (Int) := (lacquerref03_sum.f k a0 16 32773).bind fun t104 => (some t104)
theorem lacquerref03_Crc16.mono : ∀ a0 k, LeO (lacquerref03_Crc16.f k a0) (lacquerref03_Crc16.f (k + 1) a0) := by
  intro a0 k
  unfold lacquerref03_Crc16.f
  repeat' first
      | (with_reducible exact lacquerref03_sum.mono _ _ _ _)
      | (with_reducible exact LeO.refl _)
      | (with_reducible exact LeO.none _)
      | (with_reducible refine LeO.ite ?_ ?_)
      | (with_reducible refine LeO.bind ?_ (fun _ => ?_))
      | exact lacquerref03_sum.mono _ _ _ _
      | exact LeO.none _
      | refine LeO.ite ?_ ?_
      | refine LeO.bind ?_ (fun _ => ?_)
set_option maxHeartbeats 8000000 in
set_option maxRecDepth 100000 in
theorem lacquerref03_Crc16.calls (k : Nat) (a0 : ByteArray) (r : Int) (w : World) (h : lacquerref03_Crc16.f k a0 = some r) :
    Calls Try.prog 11 #[.string a0] w fun e w' => e = .returned (.int .i64 r) ∧ Drawn0 w w' := by
  have H : ((lacquerref03_sum.f k a0 16 32773).bind fun t104 => (some t104)) = some r := h
  clear h
  replace H := Option.bind_eq_some_iff.mp H
  obtain ⟨t104, A20, H⟩ := H
  replace H : (some t104) = some r := H
  have A2 := Aside0.mk A20
  clear A20
  obtain rfl := Option.some.inj H
  go_enter Try.func11, Try.ntmps11
  go_wp2_with (first | ((with_reducible refine gate_callee (f := 24) rfl ?_); refine goesL_ (some 4) rfl rfl Try.func24 (by kernel_rfl) rfl #[.string a0, .int .i64 16, .int .i64 32773] rfl (by (try simp only [List.map_toArray, List.map_cons, List.map_nil]); first | done | rfl | (simp only [List.length_drop, List.length_take]; rfl)) ?_; (with_reducible refine (lacquerref03_sum.calls k a0 16 32773 t104 _ A2.out).mono ?_); rintro e w' ⟨rfl, ⟨nd, rfl⟩⟩; refine ⟨_, rfl, ?_⟩))
  go_ret
  exact ⟨by first | rfl | (simp; done) | (simp [*]; done), by repeat (first | exact Drawn0.refl _ | apply Drawn0.step)⟩

/-! ### sums_Ogg: function 12 -/
def sums_Ogg.f (a0 : ByteArray) : Option (Int) := (sums_of.f 32 a0).bind fun t105 => (some t105)
set_option maxHeartbeats 8000000 in
set_option maxRecDepth 100000 in
theorem sums_Ogg.calls (a0 : ByteArray) (r : Int) (w : World) (h : sums_Ogg.f a0 = some r) :
    Calls Try.prog 12 #[.string a0] w fun e w' => e = .returned (.int .i64 r) ∧ Below w.heap.size w w' := by
  have HB := Aside0.mk (Below.refl w.heap.size w)
  have H : ((sums_of.f 32 a0).bind fun t105 => (some t105)) = some r := h
  clear h
  replace H := Option.bind_eq_some_iff.mp H
  obtain ⟨t105, A20, H⟩ := H
  replace H : (some t105) = some r := H
  have A2 := Aside0.mk A20
  clear A20
  obtain rfl := Option.some.inj H
  go_enter Try.func12, Try.ntmps12
  go_wp2_with (first | ((with_reducible refine gate_callee (f := 23) rfl ?_); refine goesL_ (some 4) rfl rfl Try.func23 (by kernel_rfl) rfl #[.int .i64 32, .string a0] rfl (by (try simp only [List.map_toArray, List.map_cons, List.map_nil]); first | done | rfl | (simp only [List.length_drop, List.length_take]; rfl)) ?_; (with_reducible refine (sums_of.calls 32 a0 t105 _ A2.out).mono ?_); rintro e w3 ⟨rfl, hb⟩; refine ⟨_, rfl, ?_⟩; have n0_ := Aside0.mk (below_step (by repeat (first | (with_reducible first | exact HB.out | apply below_alloc | apply pw_below_drewN | apply below_drew1) | exact HB.out)) hb); clear HB; have HB := n0_; clear n0_; (try clear hb); (try clear hb2); (try clear hk); (try clear hi)))
  go_ret
  exact ⟨by first | rfl | (simp [errW_none, errW_some] <;> rfl) | (simp [*, errW_none, errW_some] <;> rfl), by repeat (first | (with_reducible first | exact HB.out | apply below_alloc | apply pw_below_drewN | apply below_drew1) | exact HB.out)⟩

/-! ### lacquerref03_Ogg: function 13 -/
def lacquerref03_Ogg.f (k : Nat) (a0 : ByteArray) : Option (Int) := (lacquerref03_sum.f k a0 32 79764919).bind fun t106 => (some t106)
theorem lacquerref03_Ogg.mono : ∀ a0 k, LeO (lacquerref03_Ogg.f k a0) (lacquerref03_Ogg.f (k + 1) a0) := by
  intro a0 k
  unfold lacquerref03_Ogg.f
  repeat' first
      | (with_reducible exact lacquerref03_sum.mono _ _ _ _)
      | (with_reducible exact LeO.refl _)
      | (with_reducible exact LeO.none _)
      | (with_reducible refine LeO.ite ?_ ?_)
      | (with_reducible refine LeO.bind ?_ (fun _ => ?_))
      | exact lacquerref03_sum.mono _ _ _ _
      | exact LeO.none _
      | refine LeO.ite ?_ ?_
      | refine LeO.bind ?_ (fun _ => ?_)
set_option maxHeartbeats 8000000 in
set_option maxRecDepth 100000 in
theorem lacquerref03_Ogg.calls (k : Nat) (a0 : ByteArray) (r : Int) (w : World) (h : lacquerref03_Ogg.f k a0 = some r) :
    Calls Try.prog 13 #[.string a0] w fun e w' => e = .returned (.int .i64 r) ∧ Drawn0 w w' := by
  have H : ((lacquerref03_sum.f k a0 32 79764919).bind fun t106 => (some t106)) = some r := h
  clear h
  replace H := Option.bind_eq_some_iff.mp H
  obtain ⟨t106, A20, H⟩ := H
  replace H : (some t106) = some r := H
  have A2 := Aside0.mk A20
  clear A20
  obtain rfl := Option.some.inj H
  go_enter Try.func13, Try.ntmps13
  go_wp2_with (first | ((with_reducible refine gate_callee (f := 24) rfl ?_); refine goesL_ (some 4) rfl rfl Try.func24 (by kernel_rfl) rfl #[.string a0, .int .i64 32, .int .i64 79764919] rfl (by (try simp only [List.map_toArray, List.map_cons, List.map_nil]); first | done | rfl | (simp only [List.length_drop, List.length_take]; rfl)) ?_; (with_reducible refine (lacquerref03_sum.calls k a0 32 79764919 t106 _ A2.out).mono ?_); rintro e w' ⟨rfl, ⟨nd, rfl⟩⟩; refine ⟨_, rfl, ?_⟩))
  go_ret
  exact ⟨by first | rfl | (simp; done) | (simp [*]; done), by repeat (first | exact Drawn0.refl _ | apply Drawn0.step)⟩

/-! ### sums_Crc32: function 14 -/
def sums_Crc32.f (a0 : ByteArray) : Option (Int) := (sums_of.f 33 a0).bind fun t107 => (some t107)
set_option maxHeartbeats 8000000 in
set_option maxRecDepth 100000 in
theorem sums_Crc32.calls (a0 : ByteArray) (r : Int) (w : World) (h : sums_Crc32.f a0 = some r) :
    Calls Try.prog 14 #[.string a0] w fun e w' => e = .returned (.int .i64 r) ∧ Below w.heap.size w w' := by
  have HB := Aside0.mk (Below.refl w.heap.size w)
  have H : ((sums_of.f 33 a0).bind fun t107 => (some t107)) = some r := h
  clear h
  replace H := Option.bind_eq_some_iff.mp H
  obtain ⟨t107, A20, H⟩ := H
  replace H : (some t107) = some r := H
  have A2 := Aside0.mk A20
  clear A20
  obtain rfl := Option.some.inj H
  go_enter Try.func14, Try.ntmps14
  go_wp2_with (first | ((with_reducible refine gate_callee (f := 23) rfl ?_); refine goesL_ (some 4) rfl rfl Try.func23 (by kernel_rfl) rfl #[.int .i64 33, .string a0] rfl (by (try simp only [List.map_toArray, List.map_cons, List.map_nil]); first | done | rfl | (simp only [List.length_drop, List.length_take]; rfl)) ?_; (with_reducible refine (sums_of.calls 33 a0 t107 _ A2.out).mono ?_); rintro e w3 ⟨rfl, hb⟩; refine ⟨_, rfl, ?_⟩; have n0_ := Aside0.mk (below_step (by repeat (first | (with_reducible first | exact HB.out | apply below_alloc | apply pw_below_drewN | apply below_drew1) | exact HB.out)) hb); clear HB; have HB := n0_; clear n0_; (try clear hb); (try clear hb2); (try clear hk); (try clear hi)))
  go_ret
  exact ⟨by first | rfl | (simp [errW_none, errW_some] <;> rfl) | (simp [*, errW_none, errW_some] <;> rfl), by repeat (first | (with_reducible first | exact HB.out | apply below_alloc | apply pw_below_drewN | apply below_drew1) | exact HB.out)⟩

/-! ### lacquerref03_Crc32: function 15 -/
mutual
def lacquerref03_Crc32.l0 : Nat → ByteArray → Int → Int → Option (Int)
  | 0, _, _, _ => none
  | k + 1, x0, x3, x4 => if x4 < (x0.size : Int) then (if 0 ≤ x4 then (lacquerref03_Crc32.l1 k x0 (Go.bits .xor .i64 x3 (wrap64 (bt x0 x4))) x4 0) else (none)) else (some (Go.bits .xor .i64 x3 4294967295))
def lacquerref03_Crc32.l1 : Nat → ByteArray → Int → Int → Int → Option (Int)
  | 0, _, _, _, _ => none
  | k + 1, x0, x3, x4, x5 => if x5 < 8 then (if (Go.bits .and .i64 x3 1) = 1 then (lacquerref03_Crc32.l1 k x0 (Go.bits .xor .i64 (x3 / 2) 3988292384) x4 (wrap64 (x5 + 1))) else (lacquerref03_Crc32.l1 k x0 (x3 / 2) x4 (wrap64 (x5 + 1)))) else (lacquerref03_Crc32.l0 k x0 x3 (wrap64 (x4 + 1)))
end
def lacquerref03_Crc32.f (k : Nat) (a0 : ByteArray) : Option (Int) := lacquerref03_Crc32.l0 k a0 4294967295 0
theorem lacquerref03_Crc32.mono_l : ∀ k, (∀ y0 y1 y2, LeO (lacquerref03_Crc32.l0 k y0 y1 y2) (lacquerref03_Crc32.l0 (k + 1) y0 y1 y2)) ∧ (∀ y0 y1 y2 y3, LeO (lacquerref03_Crc32.l1 k y0 y1 y2 y3) (lacquerref03_Crc32.l1 (k + 1) y0 y1 y2 y3))
  | 0 => ⟨fun _ _ _ r h => by simp [lacquerref03_Crc32.l0] at h, fun _ _ _ _ r h => by simp [lacquerref03_Crc32.l1] at h⟩
  | k + 1 => by
    obtain ⟨ih0, ih1⟩ := lacquerref03_Crc32.mono_l k
    refine ⟨?_, ?_⟩
    · intro y0 y1 y2
      unfold lacquerref03_Crc32.l0
      repeat' first
      | (with_reducible exact ih0 _ _ _)
      | (with_reducible exact ih1 _ _ _ _)
      | (with_reducible exact LeO.refl _)
      | (with_reducible exact LeO.none _)
      | (with_reducible refine LeO.ite ?_ ?_)
      | (with_reducible refine LeO.bind ?_ (fun _ => ?_))
      | exact ih0 _ _ _
      | exact ih1 _ _ _ _
      | exact LeO.none _
      | refine LeO.ite ?_ ?_
      | refine LeO.bind ?_ (fun _ => ?_)
    · intro y0 y1 y2 y3
      unfold lacquerref03_Crc32.l1
      repeat' first
      | (with_reducible exact ih0 _ _ _)
      | (with_reducible exact ih1 _ _ _ _)
      | (with_reducible exact LeO.refl _)
      | (with_reducible exact LeO.none _)
      | (with_reducible refine LeO.ite ?_ ?_)
      | (with_reducible refine LeO.bind ?_ (fun _ => ?_))
      | exact ih0 _ _ _
      | exact ih1 _ _ _ _
      | exact LeO.none _
      | refine LeO.ite ?_ ?_
      | refine LeO.bind ?_ (fun _ => ?_)
theorem lacquerref03_Crc32.mono : ∀ a0 k, LeO (lacquerref03_Crc32.f k a0) (lacquerref03_Crc32.f (k + 1) a0) := by
  intro a0 k
  obtain ⟨ih0, ih1⟩ := lacquerref03_Crc32.mono_l k
  unfold lacquerref03_Crc32.f
  repeat' first
      | (with_reducible exact ih0 _ _ _)
      | (with_reducible exact ih1 _ _ _ _)
      | (with_reducible exact LeO.refl _)
      | (with_reducible exact LeO.none _)
      | (with_reducible refine LeO.ite ?_ ?_)
      | (with_reducible refine LeO.bind ?_ (fun _ => ?_))
      | exact ih0 _ _ _
      | exact ih1 _ _ _ _
      | exact LeO.none _
      | refine LeO.ite ?_ ?_
      | refine LeO.bind ?_ (fun _ => ?_)
set_option maxHeartbeats 8000000 in
set_option maxRecDepth 100000 in
theorem lacquerref03_Crc32.calls (k : Nat) (a0 : ByteArray) (r : Int) (w : World) (h : lacquerref03_Crc32.f k a0 = some r) :
    Calls Try.prog 15 #[.string a0] w fun e w' => e = .returned (.int .i64 r) ∧ Drawn0 w w' := by
  have H : (lacquerref03_Crc32.l0 k a0 4294967295 0) = some r := h
  clear h
  have H' := Aside0.mk H
  clear H
  go_enter Try.func15, Try.ntmps15
  go_wp2
  go_loopg [3, 4] k (fun kq v3 v4 w' => ∃ (x3_1 : Int) (x4_1 : Int), v3 = .int .i64 x3_1 ∧ v4 = .int .i64 x4_1 ∧ Aside0 (lacquerref03_Crc32.l0 kq a0 x3_1 x4_1 = some r) ∧ Aside0 (kq ≤ k) ∧ Drawn0 w w')
  case atStart => exact ⟨(4294967295), (0), (by first | rfl | (simp; done) | (simp [*]; done)), (by first | rfl | (simp; done) | (simp [*]; done)), H', ⟨Nat.le_refl _⟩, by repeat (first | exact Drawn0.refl _ | apply Drawn0.step)⟩
  case round =>
    clear H'
    try clear c1
    obtain ⟨x3_1, x4_1, rfl, rfl, HA, HK1, ⟨m1, rfl⟩⟩ := hrel
    cases gk with
    | zero => exact absurd HA.out (by simp [lacquerref03_Crc32.l0])
    | succ k1 =>
      have H := HA.out
      clear HA
      simp only [lacquerref03_Crc32.l0] at H
      by_cases c2 : x4_1 < (a0.size : Int)
      · rw [if_pos c2] at H
        have c2b0 : decide (x4_1 < (a0.size : Int)) = true := decide_eq_true c2
        clear c2
        by_cases c3 : 0 ≤ x4_1
        · rw [if_pos c3] at H
          have c3b0 : decide (0 ≤ x4_1) = true := decide_eq_true c3
          clear c3
          have H' := Aside0.mk H
          clear H
          have p4 : 0 ≤ (x4_1 : Int) := of_decide_eq_true (by first | (with_reducible assumption) | assumption)
          have q4 : x4_1 < (a0.size : Int) := of_decide_eq_true (by first | (with_reducible assumption) | assumption)
          have hx4 := bt_at a0 x4_1
          replace p4 := eq_true p4
          replace q4 := eq_true q4
          go_wp2
          go_loopg [3, 5] k1 (fun kq v3 v5 w' => ∃ (x3_2 : Int) (x5_2 : Int), v3 = .int .i64 x3_2 ∧ v5 = .int .i64 x5_2 ∧ Aside0 (lacquerref03_Crc32.l1 kq a0 x3_2 x4_1 x5_2 = some r) ∧ Aside0 (kq ≤ k1) ∧ Drawn0 w w')
          case atStart => exact ⟨(Go.bits .xor .i64 x3_1 (wrap64 (bt a0 x4_1))), (0), (by first | rfl | (simp; done) | (simp [*]; done)), (by first | rfl | (simp; done) | (simp [*]; done)), H', ⟨Nat.le_refl _⟩, by repeat (first | exact Drawn0.refl _ | apply Drawn0.step)⟩
          case round =>
            clear H'
            try clear c1
            try clear c2
            try clear c2b0
            try clear p2
            try clear c3
            try clear c3b0
            try clear p4
            try clear q4
            try clear hx4
            try clear p4
            try clear q4
            obtain ⟨x3_2, x5_2, rfl, rfl, HA, HK2, ⟨m2, rfl⟩⟩ := hrel
            cases gk with
            | zero => exact absurd HA.out (by simp [lacquerref03_Crc32.l1])
            | succ k2 =>
              have H := HA.out
              clear HA
              simp only [lacquerref03_Crc32.l1] at H
              by_cases c5 : x5_2 < 8
              · rw [if_pos c5] at H
                have c5b0 : decide (x5_2 < 8) = true := decide_eq_true c5
                clear c5
                by_cases c6 : (Go.bits .and .i64 x3_2 1) = 1
                · rw [if_pos c6] at H
                  have c6b0 : ((Go.bits .and .i64 x3_2 1) == 1) = true := beq_iff_eq.mpr c6
                  have c6b1 : ((Go.bits .and .i64 x3_2 1) != 1) = false := bne_eq_false_iff_eq.mpr c6
                  clear c6
                  have H' := Aside0.mk H
                  clear H
                  go_wp2
                  go_roundg k2
                  case measure => have := HK1.out; have := HK2.out; omega
                  case rel => exact ⟨(Go.bits .xor .i64 (x3_2 / 2) 3988292384), (wrap64 (x5_2 + 1)), (by first | rfl | (simp; done) | (simp [*]; done)), (by first | rfl | (simp; done) | (simp [*]; done)), H', ⟨by have := HK1.out; have := HK2.out; omega⟩, by repeat (first | exact Drawn0.refl _ | apply Drawn0.step)⟩
                · rw [if_neg c6] at H
                  have c6b0 : ((Go.bits .and .i64 x3_2 1) == 1) = false := beq_eq_false_iff_ne.mpr c6
                  have c6b1 : ((Go.bits .and .i64 x3_2 1) != 1) = true := bne_iff_ne.mpr c6
                  have H' := Aside0.mk H
                  clear H
                  go_wp2
                  go_roundg k2
                  case measure => have := HK1.out; have := HK2.out; omega
                  case rel => exact ⟨(x3_2 / 2), (wrap64 (x5_2 + 1)), (by first | rfl | (simp; done) | (simp [*]; done)), (by first | rfl | (simp; done) | (simp [*]; done)), H', ⟨by have := HK1.out; have := HK2.out; omega⟩, by repeat (first | exact Drawn0.refl _ | apply Drawn0.step)⟩
              · rw [if_neg c5] at H
                have c5b0 : decide (x5_2 < 8) = false := decide_eq_false c5
                clear c5
                have H' := Aside0.mk H
                clear H
                go_wp2
                go_roundg k2
                case measure => have := HK1.out; have := HK2.out; omega
                case rel => exact ⟨(x3_2), (wrap64 (x4_1 + 1)), (by first | rfl | (simp; done) | (simp [*]; done)), (by first | rfl | (simp; done) | (simp [*]; done)), H', ⟨by have := HK1.out; have := HK2.out; omega⟩, by repeat (first | exact Drawn0.refl _ | apply Drawn0.step)⟩
        · rw [if_neg c3] at H
          exact absurd H (by simp)
      · rw [if_neg c2] at H
        have c2b0 : decide (x4_1 < (a0.size : Int)) = false := decide_eq_false c2
        clear c2
        obtain rfl := Option.some.inj H
        go_wp2
        go_ret
        exact ⟨by first | rfl | (simp; done) | (simp [*]; done), by repeat (first | exact Drawn0.refl _ | apply Drawn0.step)⟩

/-! ### lacquerlaw03_awake: function 16 -/
def lacquerlaw03_awake.f : Option (Bool) := some true
theorem lacquerlaw03_awake.calls (r : Bool) (w : World) (h : lacquerlaw03_awake.f = some r) :
    Calls Try.prog 16 #[] w fun e w' => e = .returned (.bool r) ∧ Below w.heap.size w w' := by
  have e : true = r := Option.some.inj h
  rw [← e]
  exact Hand.awake_any w

/-! ### lacquerlaw03_SumsAll: function 3 -/
def lacquerlaw03_SumsAll.f (k : Nat) (a0 : ByteArray) : Option (Bool) := (sums_Crc8.f a0).bind fun t108 => ((lacquerref03_Crc8.f k a0).bind fun t109 => (if t108 = t109 then ((sums_Crc16.f a0).bind fun t110 => ((lacquerref03_Crc16.f k a0).bind fun t111 => (if t110 = t111 then ((sums_Ogg.f a0).bind fun t112 => ((lacquerref03_Ogg.f k a0).bind fun t113 => (if t112 = t113 then ((sums_Crc32.f a0).bind fun t114 => ((lacquerref03_Crc32.f k a0).bind fun t115 => (if t114 = t115 then ((lacquerlaw03_awake.f).bind fun t116 => (some t116)) else (none)))) else (none)))) else (none)))) else (none)))
theorem lacquerlaw03_SumsAll.mono : ∀ a0 k, LeO (lacquerlaw03_SumsAll.f k a0) (lacquerlaw03_SumsAll.f (k + 1) a0) := by
  intro a0 k
  unfold lacquerlaw03_SumsAll.f
  repeat' first
      | (with_reducible exact lacquerref03_Crc16.mono _ _)
      | (with_reducible exact lacquerref03_Crc32.mono _ _)
      | (with_reducible exact lacquerref03_Crc8.mono _ _)
      | (with_reducible exact lacquerref03_Ogg.mono _ _)
      | (with_reducible exact LeO.refl _)
      | (with_reducible exact LeO.none _)
      | (with_reducible refine LeO.ite ?_ ?_)
      | (with_reducible refine LeO.bind ?_ (fun _ => ?_))
      | exact lacquerref03_Crc16.mono _ _
      | exact lacquerref03_Crc32.mono _ _
      | exact lacquerref03_Crc8.mono _ _
      | exact lacquerref03_Ogg.mono _ _
      | exact LeO.none _
      | refine LeO.ite ?_ ?_
      | refine LeO.bind ?_ (fun _ => ?_)
set_option maxHeartbeats 8000000 in
set_option maxRecDepth 100000 in
theorem lacquerlaw03_SumsAll.calls (k : Nat) (a0 : ByteArray) (r : Bool) (w : World) (h : lacquerlaw03_SumsAll.f k a0 = some r) :
    Calls Try.prog 3 #[.string a0] w fun e w' => e = .returned (.bool r) ∧ Below w.heap.size w w' := by
  have HB := Aside0.mk (Below.refl w.heap.size w)
  have H : ((sums_Crc8.f a0).bind fun t108 => ((lacquerref03_Crc8.f k a0).bind fun t109 => (if t108 = t109 then ((sums_Crc16.f a0).bind fun t110 => ((lacquerref03_Crc16.f k a0).bind fun t111 => (if t110 = t111 then ((sums_Ogg.f a0).bind fun t112 => ((lacquerref03_Ogg.f k a0).bind fun t113 => (if t112 = t113 then ((sums_Crc32.f a0).bind fun t114 => ((lacquerref03_Crc32.f k a0).bind fun t115 => (if t114 = t115 then ((lacquerlaw03_awake.f).bind fun t116 => (some t116)) else (none)))) else (none)))) else (none)))) else (none)))) = some r := h
  clear h
  replace H := Option.bind_eq_some_iff.mp H
  obtain ⟨t108, A20, H⟩ := H
  replace H : ((lacquerref03_Crc8.f k a0).bind fun t109 => (if t108 = t109 then ((sums_Crc16.f a0).bind fun t110 => ((lacquerref03_Crc16.f k a0).bind fun t111 => (if t110 = t111 then ((sums_Ogg.f a0).bind fun t112 => ((lacquerref03_Ogg.f k a0).bind fun t113 => (if t112 = t113 then ((sums_Crc32.f a0).bind fun t114 => ((lacquerref03_Crc32.f k a0).bind fun t115 => (if t114 = t115 then ((lacquerlaw03_awake.f).bind fun t116 => (some t116)) else (none)))) else (none)))) else (none)))) else (none))) = some r := H
  have A2 := Aside0.mk A20
  clear A20
  replace H := Option.bind_eq_some_iff.mp H
  obtain ⟨t109, A30, H⟩ := H
  replace H : (if t108 = t109 then ((sums_Crc16.f a0).bind fun t110 => ((lacquerref03_Crc16.f k a0).bind fun t111 => (if t110 = t111 then ((sums_Ogg.f a0).bind fun t112 => ((lacquerref03_Ogg.f k a0).bind fun t113 => (if t112 = t113 then ((sums_Crc32.f a0).bind fun t114 => ((lacquerref03_Crc32.f k a0).bind fun t115 => (if t114 = t115 then ((lacquerlaw03_awake.f).bind fun t116 => (some t116)) else (none)))) else (none)))) else (none)))) else (none)) = some r := H
  have A3 := Aside0.mk A30
  clear A30
  by_cases c4 : t108 = t109
  · rw [if_pos c4] at H
    have c4b0 : (t108 == t109) = true := beq_iff_eq.mpr c4
    have c4b1 : (t108 != t109) = false := bne_eq_false_iff_eq.mpr c4
    clear c4
    replace H := Option.bind_eq_some_iff.mp H
    obtain ⟨t110, A50, H⟩ := H
    replace H : ((lacquerref03_Crc16.f k a0).bind fun t111 => (if t110 = t111 then ((sums_Ogg.f a0).bind fun t112 => ((lacquerref03_Ogg.f k a0).bind fun t113 => (if t112 = t113 then ((sums_Crc32.f a0).bind fun t114 => ((lacquerref03_Crc32.f k a0).bind fun t115 => (if t114 = t115 then ((lacquerlaw03_awake.f).bind fun t116 => (some t116)) else (none)))) else (none)))) else (none))) = some r := H
    have A5 := Aside0.mk A50
    clear A50
    replace H := Option.bind_eq_some_iff.mp H
    obtain ⟨t111, A60, H⟩ := H
    replace H : (if t110 = t111 then ((sums_Ogg.f a0).bind fun t112 => ((lacquerref03_Ogg.f k a0).bind fun t113 => (if t112 = t113 then ((sums_Crc32.f a0).bind fun t114 => ((lacquerref03_Crc32.f k a0).bind fun t115 => (if t114 = t115 then ((lacquerlaw03_awake.f).bind fun t116 => (some t116)) else (none)))) else (none)))) else (none)) = some r := H
    have A6 := Aside0.mk A60
    clear A60
    by_cases c7 : t110 = t111
    · rw [if_pos c7] at H
      have c7b0 : (t110 == t111) = true := beq_iff_eq.mpr c7
      have c7b1 : (t110 != t111) = false := bne_eq_false_iff_eq.mpr c7
      clear c7
      replace H := Option.bind_eq_some_iff.mp H
      obtain ⟨t112, A80, H⟩ := H
      replace H : ((lacquerref03_Ogg.f k a0).bind fun t113 => (if t112 = t113 then ((sums_Crc32.f a0).bind fun t114 => ((lacquerref03_Crc32.f k a0).bind fun t115 => (if t114 = t115 then ((lacquerlaw03_awake.f).bind fun t116 => (some t116)) else (none)))) else (none))) = some r := H
      have A8 := Aside0.mk A80
      clear A80
      replace H := Option.bind_eq_some_iff.mp H
      obtain ⟨t113, A90, H⟩ := H
      replace H : (if t112 = t113 then ((sums_Crc32.f a0).bind fun t114 => ((lacquerref03_Crc32.f k a0).bind fun t115 => (if t114 = t115 then ((lacquerlaw03_awake.f).bind fun t116 => (some t116)) else (none)))) else (none)) = some r := H
      have A9 := Aside0.mk A90
      clear A90
      by_cases c10 : t112 = t113
      · rw [if_pos c10] at H
        have c10b0 : (t112 == t113) = true := beq_iff_eq.mpr c10
        have c10b1 : (t112 != t113) = false := bne_eq_false_iff_eq.mpr c10
        clear c10
        replace H := Option.bind_eq_some_iff.mp H
        obtain ⟨t114, A110, H⟩ := H
        replace H : ((lacquerref03_Crc32.f k a0).bind fun t115 => (if t114 = t115 then ((lacquerlaw03_awake.f).bind fun t116 => (some t116)) else (none))) = some r := H
        have A11 := Aside0.mk A110
        clear A110
        replace H := Option.bind_eq_some_iff.mp H
        obtain ⟨t115, A120, H⟩ := H
        replace H : (if t114 = t115 then ((lacquerlaw03_awake.f).bind fun t116 => (some t116)) else (none)) = some r := H
        have A12 := Aside0.mk A120
        clear A120
        by_cases c13 : t114 = t115
        · rw [if_pos c13] at H
          have c13b0 : (t114 == t115) = true := beq_iff_eq.mpr c13
          have c13b1 : (t114 != t115) = false := bne_eq_false_iff_eq.mpr c13
          clear c13
          replace H := Option.bind_eq_some_iff.mp H
          obtain ⟨t116, A140, H⟩ := H
          replace H : (some t116) = some r := H
          have A14 := Aside0.mk A140
          clear A140
          obtain rfl := Option.some.inj H
          go_enter Try.func3, Try.ntmps3
          go_wp2_with (first | ((with_reducible refine gate_callee (f := 8) rfl ?_); refine goesL_ (some 4) rfl rfl Try.func8 (by kernel_rfl) rfl #[.string a0] rfl (by (try simp only [List.map_toArray, List.map_cons, List.map_nil]); first | done | rfl | (simp only [List.length_drop, List.length_take]; rfl)) ?_; (with_reducible refine (sums_Crc8.calls a0 t108 _ A2.out).mono ?_); rintro e w15 ⟨rfl, hb⟩; refine ⟨_, rfl, ?_⟩; have n0_ := Aside0.mk (below_step (by repeat (first | (with_reducible first | exact HB.out | apply below_alloc | apply pw_below_drewN | apply below_drew1) | exact HB.out)) hb); clear HB; have HB := n0_; clear n0_; (try clear hb); (try clear hb2); (try clear hk); (try clear hi)) | ((with_reducible refine gate_callee (f := 9) rfl ?_); refine goesL_ (some 6) rfl rfl Try.func9 (by kernel_rfl) rfl #[.string a0] rfl (by (try simp only [List.map_toArray, List.map_cons, List.map_nil]); first | done | rfl | (simp only [List.length_drop, List.length_take]; rfl)) ?_; (with_reducible refine (lacquerref03_Crc8.calls k a0 t109 _ A3.out).mono ?_); rintro e w' ⟨rfl, ⟨nd, rfl⟩⟩; refine ⟨_, rfl, ?_⟩) | (go_at_call 10; (with_reducible refine (sums_Crc16.calls a0 t110 _ A5.out).mono ?_); rintro e w16 ⟨rfl, hb⟩; have n0_ := Aside0.mk (below_step (by repeat (first | (with_reducible first | exact HB.out | apply below_alloc | apply pw_below_drewN | apply below_drew1) | exact HB.out)) hb); clear HB; have HB := n0_; clear n0_; (try clear hb); (try clear hb2); (try clear hk); (try clear hi)) | (go_at_call 11; (with_reducible refine (lacquerref03_Crc16.calls k a0 t111 _ A6.out).mono ?_); rintro e w' ⟨rfl, ⟨nd, rfl⟩⟩) | (go_at_call 12; (with_reducible refine (sums_Ogg.calls a0 t112 _ A8.out).mono ?_); rintro e w17 ⟨rfl, hb⟩; have n0_ := Aside0.mk (below_step (by repeat (first | (with_reducible first | exact HB.out | apply below_alloc | apply pw_below_drewN | apply below_drew1) | exact HB.out)) hb); clear HB; have HB := n0_; clear n0_; (try clear hb); (try clear hb2); (try clear hk); (try clear hi)) | (go_at_call 13; (with_reducible refine (lacquerref03_Ogg.calls k a0 t113 _ A9.out).mono ?_); rintro e w' ⟨rfl, ⟨nd, rfl⟩⟩) | (go_at_call 14; (with_reducible refine (sums_Crc32.calls a0 t114 _ A11.out).mono ?_); rintro e w18 ⟨rfl, hb⟩; have n0_ := Aside0.mk (below_step (by repeat (first | (with_reducible first | exact HB.out | apply below_alloc | apply pw_below_drewN | apply below_drew1) | exact HB.out)) hb); clear HB; have HB := n0_; clear n0_; (try clear hb); (try clear hb2); (try clear hk); (try clear hi)) | (go_at_call 15; (with_reducible refine (lacquerref03_Crc32.calls k a0 t115 _ A12.out).mono ?_); rintro e w' ⟨rfl, ⟨nd, rfl⟩⟩) | (go_at_call 16; (with_reducible refine (lacquerlaw03_awake.calls  t116 _ A14.out).mono ?_); rintro e w19 ⟨rfl, hb⟩; have n0_ := Aside0.mk (below_step (by repeat (first | (with_reducible first | exact HB.out | apply below_alloc | apply pw_below_drewN | apply below_drew1) | exact HB.out)) hb); clear HB; have HB := n0_; clear n0_; (try clear hb); (try clear hb2); (try clear hk); (try clear hi)))
          go_ret
          exact ⟨by first | rfl | (simp [errW_none, errW_some] <;> rfl) | (simp [*, errW_none, errW_some] <;> rfl), by repeat (first | (with_reducible first | exact HB.out | apply below_alloc | apply pw_below_drewN | apply below_drew1) | exact HB.out)⟩
        · rw [if_neg c13] at H
          exact absurd H (by simp)
      · rw [if_neg c10] at H
        exact absurd H (by simp)
    · rw [if_neg c7] at H
      exact absurd H (by simp)
  · rw [if_neg c4] at H
    exact absurd H (by simp)

/-- THE ONE PURE STATEMENT of lacquerlaw03_SumsAll: yours. -/
def lacquerlaw03_SumsAll.Pure : Prop := ∀ (a0 : ByteArray), a0.size ≤ 140737488351232 → ∃ k, lacquerlaw03_SumsAll.f k a0 = some true
theorem lacquerlaw03_SumsAll.walk (P : lacquerlaw03_SumsAll.Pure) (a0 : ByteArray) (w : World) (w0 : a0.size ≤ 140737488351232) :
    Calls Try.prog 3 #[.string a0] w fun e w' => e = .returned (.bool true) ∧ Below w.heap.size w w' := by
  obtain ⟨k, h⟩ := P a0 w0
  refine (lacquerlaw03_SumsAll.calls k a0 true w h).mono ?_
  rintro e w' ⟨rfl, hd⟩
  exact ⟨rfl, hd⟩

/-! ### lacquerlaw03_kinds: function 21 -/
def lacquerlaw03_kinds.f  : Option (List Int) := some (([8, 16, 32, 33] : List Int))
set_option maxHeartbeats 8000000 in
set_option maxRecDepth 100000 in
theorem lacquerlaw03_kinds.calls  (r : List Int) (w : World) (h : lacquerlaw03_kinds.f  = some r) :
    Calls Try.prog 21 #[] w fun e w' => ∃ v0_ : Value, e = .returned (v0_) ∧ Kd.R (Kd.int .i64) 3 w' w.heap.size (fun _ => True) v0_ r ∧ Below w.heap.size w w' := by
  have HB := Aside0.mk (Below.refl w.heap.size w)
  have H : (some (([8, 16, 32, 33] : List Int))) = some r := h
  clear h
  obtain ⟨y117, hy117⟩ : ∃ y_ : List Int, y_ = (([8, 16, 32, 33] : List Int)) := ⟨_, rfl⟩
  replace H : (some y117) = some r := by first | (rw [hy117]; with_reducible exact H) | (have H2_ := (Option.bind_some _ _).symm.trans H; rw [hy117]; with_reducible exact H2_) | (have H2_ := (Option.bind_some _ _).symm.trans H; with_reducible exact H2_) | with_reducible exact H | (rw [hy117]; exact H) | exact H
  have Ny117 := Aside0.mk hy117
  clear hy117
  obtain rfl := Option.some.inj H
  go_enter Try.func21, Try.ntmps21
  go_wp2_with (first | ((with_reducible refine gate_dst (N := 1) rfl ?_); refine Kd.R_lit (Kd.int .i64) _ 3 ?hg (N := 1) ?hd (xs := ([8, 16, 32, 33] : List Int)) (inner := [.int .i64 8, .int .i64 16, .int .i64 32, .int .i64 33]) (ok := fun _ => True) (okp := fun _ => True) ?hr ?hp (fun _ hk => hk) trivial (Below.refl _ _) (Nat.le_refl _) (by simp) ?_; (case hd => rfl); (case hg => rfl); (case hr => first | (go_simp; done) | (go_simp; rfl)); (case hp => exact (Reps.one (show Kd.M (Kd.int .i64) _ _ _ 8 [.int .i64 8] from rfl) (Reps.one (show Kd.M (Kd.int .i64) _ _ _ 16 [.int .i64 16] from rfl) (Reps.one (show Kd.M (Kd.int .i64) _ _ _ 32 [.int .i64 32] from rfl) (Reps.one (show Kd.M (Kd.int .i64) _ _ _ 33 [.int .i64 33] from rfl) (Reps.none _ _)))))); intro v118 w1 ho2 hb hg_ hnew_; clear hg_ hnew_; (first | rw [← Ny117.out] at ho2 | (simp only [Int.reduceToNat] at ho2; rw [← Ny117.out] at ho2)); have n0_ := Aside0.mk (Kd.R_lower ho2 (below_size (by repeat (first | (with_reducible first | exact HB.out | apply below_alloc | apply pw_below_drewN | apply below_drew1) | exact HB.out)))); have n1_ := Aside0.mk (below_step (by repeat (first | (with_reducible first | exact HB.out | apply below_alloc | apply pw_below_drewN | apply below_drew1) | exact HB.out)) hb); clear HB; have HO119 := n0_; have HB := n1_; clear n0_ n1_; clear hb ho2))
  go_ret
  exact ⟨_, by first | rfl | (simp [errW_none, errW_some] <;> rfl) | (simp [*, errW_none, errW_some] <;> rfl), by (with_reducible repeat (first | apply Kd.R_alloc | apply Kd.R_drewN | apply Kd.R_drew)); exact HO119.out, by repeat (first | (with_reducible first | exact HB.out | apply below_alloc | apply pw_below_drewN | apply below_drew1) | exact HB.out)⟩

/-! ### lacquerlaw03_of: function 22 -/
def lacquerlaw03_of.f (a0 : Int) (a1 : ByteArray) : Option (Int) := if a0 = 8 then ((sums_Crc8.f a1).bind fun t120 => (some t120)) else (if a0 = 16 then ((sums_Crc16.f a1).bind fun t121 => (some t121)) else (if a0 = 32 then ((sums_Ogg.f a1).bind fun t122 => (some t122)) else ((sums_Crc32.f a1).bind fun t123 => (some t123))))
set_option maxHeartbeats 8000000 in
set_option maxRecDepth 100000 in
theorem lacquerlaw03_of.calls (a0 : Int) (a1 : ByteArray) (r : Int) (w : World) (h : lacquerlaw03_of.f a0 a1 = some r) :
    Calls Try.prog 22 #[.int .i64 a0, .string a1] w fun e w' => e = .returned (.int .i64 r) ∧ Below w.heap.size w w' := by
  have HB := Aside0.mk (Below.refl w.heap.size w)
  have H : (if a0 = 8 then ((sums_Crc8.f a1).bind fun t120 => (some t120)) else (if a0 = 16 then ((sums_Crc16.f a1).bind fun t121 => (some t121)) else (if a0 = 32 then ((sums_Ogg.f a1).bind fun t122 => (some t122)) else ((sums_Crc32.f a1).bind fun t123 => (some t123))))) = some r := h
  clear h
  by_cases c3 : a0 = 8
  · rw [if_pos c3] at H
    have c3b0 : (a0 == 8) = true := beq_iff_eq.mpr c3
    have c3b1 : (a0 != 8) = false := bne_eq_false_iff_eq.mpr c3
    clear c3
    replace H := Option.bind_eq_some_iff.mp H
    obtain ⟨t120, A40, H⟩ := H
    replace H : (some t120) = some r := H
    have A4 := Aside0.mk A40
    clear A40
    obtain rfl := Option.some.inj H
    go_enter Try.func22, Try.ntmps22
    go_wp2_with (first | ((with_reducible refine gate_callee (f := 8) rfl ?_); refine goesL_ (some 9) rfl rfl Try.func8 (by kernel_rfl) rfl #[.string a1] rfl (by (try simp only [List.map_toArray, List.map_cons, List.map_nil]); first | done | rfl | (simp only [List.length_drop, List.length_take]; rfl)) ?_; (with_reducible refine (sums_Crc8.calls a1 t120 _ A4.out).mono ?_); rintro e w5 ⟨rfl, hb⟩; refine ⟨_, rfl, ?_⟩; have n0_ := Aside0.mk (below_step (by repeat (first | (with_reducible first | exact HB.out | apply below_alloc | apply pw_below_drewN | apply below_drew1) | exact HB.out)) hb); clear HB; have HB := n0_; clear n0_; (try clear hb); (try clear hb2); (try clear hk); (try clear hi)))
    go_ret
    exact ⟨by first | rfl | (simp [errW_none, errW_some] <;> rfl) | (simp [*, errW_none, errW_some] <;> rfl), by repeat (first | (with_reducible first | exact HB.out | apply below_alloc | apply pw_below_drewN | apply below_drew1) | exact HB.out)⟩
  · rw [if_neg c3] at H
    have c3b0 : (a0 == 8) = false := beq_eq_false_iff_ne.mpr c3
    have c3b1 : (a0 != 8) = true := bne_iff_ne.mpr c3
    by_cases c6 : a0 = 16
    · rw [if_pos c6] at H
      have c6b0 : (a0 == 16) = true := beq_iff_eq.mpr c6
      have c6b1 : (a0 != 16) = false := bne_eq_false_iff_eq.mpr c6
      clear c6
      replace H := Option.bind_eq_some_iff.mp H
      obtain ⟨t121, A70, H⟩ := H
      replace H : (some t121) = some r := H
      have A7 := Aside0.mk A70
      clear A70
      obtain rfl := Option.some.inj H
      go_enter Try.func22, Try.ntmps22
      go_wp2_with (first | ((with_reducible refine gate_callee (f := 10) rfl ?_); refine goesL_ (some 13) rfl rfl Try.func10 (by kernel_rfl) rfl #[.string a1] rfl (by (try simp only [List.map_toArray, List.map_cons, List.map_nil]); first | done | rfl | (simp only [List.length_drop, List.length_take]; rfl)) ?_; (with_reducible refine (sums_Crc16.calls a1 t121 _ A7.out).mono ?_); rintro e w8 ⟨rfl, hb⟩; refine ⟨_, rfl, ?_⟩; have n0_ := Aside0.mk (below_step (by repeat (first | (with_reducible first | exact HB.out | apply below_alloc | apply pw_below_drewN | apply below_drew1) | exact HB.out)) hb); clear HB; have HB := n0_; clear n0_; (try clear hb); (try clear hb2); (try clear hk); (try clear hi)))
      go_ret
      exact ⟨by first | rfl | (simp [errW_none, errW_some] <;> rfl) | (simp [*, errW_none, errW_some] <;> rfl), by repeat (first | (with_reducible first | exact HB.out | apply below_alloc | apply pw_below_drewN | apply below_drew1) | exact HB.out)⟩
    · rw [if_neg c6] at H
      have c6b0 : (a0 == 16) = false := beq_eq_false_iff_ne.mpr c6
      have c6b1 : (a0 != 16) = true := bne_iff_ne.mpr c6
      by_cases c9 : a0 = 32
      · rw [if_pos c9] at H
        have c9b0 : (a0 == 32) = true := beq_iff_eq.mpr c9
        have c9b1 : (a0 != 32) = false := bne_eq_false_iff_eq.mpr c9
        clear c9
        replace H := Option.bind_eq_some_iff.mp H
        obtain ⟨t122, A100, H⟩ := H
        replace H : (some t122) = some r := H
        have A10 := Aside0.mk A100
        clear A100
        obtain rfl := Option.some.inj H
        go_enter Try.func22, Try.ntmps22
        go_wp2_with (first | ((with_reducible refine gate_callee (f := 12) rfl ?_); refine goesL_ (some 17) rfl rfl Try.func12 (by kernel_rfl) rfl #[.string a1] rfl (by (try simp only [List.map_toArray, List.map_cons, List.map_nil]); first | done | rfl | (simp only [List.length_drop, List.length_take]; rfl)) ?_; (with_reducible refine (sums_Ogg.calls a1 t122 _ A10.out).mono ?_); rintro e w11 ⟨rfl, hb⟩; refine ⟨_, rfl, ?_⟩; have n0_ := Aside0.mk (below_step (by repeat (first | (with_reducible first | exact HB.out | apply below_alloc | apply pw_below_drewN | apply below_drew1) | exact HB.out)) hb); clear HB; have HB := n0_; clear n0_; (try clear hb); (try clear hb2); (try clear hk); (try clear hi)))
        go_ret
        exact ⟨by first | rfl | (simp [errW_none, errW_some] <;> rfl) | (simp [*, errW_none, errW_some] <;> rfl), by repeat (first | (with_reducible first | exact HB.out | apply below_alloc | apply pw_below_drewN | apply below_drew1) | exact HB.out)⟩
      · rw [if_neg c9] at H
        have c9b0 : (a0 == 32) = false := beq_eq_false_iff_ne.mpr c9
        have c9b1 : (a0 != 32) = true := bne_iff_ne.mpr c9
        replace H := Option.bind_eq_some_iff.mp H
        obtain ⟨t123, A120, H⟩ := H
        replace H : (some t123) = some r := H
        have A12 := Aside0.mk A120
        clear A120
        obtain rfl := Option.some.inj H
        go_enter Try.func22, Try.ntmps22
        go_wp2_with (first | ((with_reducible refine gate_callee (f := 14) rfl ?_); refine goesL_ (some 19) rfl rfl Try.func14 (by kernel_rfl) rfl #[.string a1] rfl (by (try simp only [List.map_toArray, List.map_cons, List.map_nil]); first | done | rfl | (simp only [List.length_drop, List.length_take]; rfl)) ?_; (with_reducible refine (sums_Crc32.calls a1 t123 _ A12.out).mono ?_); rintro e w13 ⟨rfl, hb⟩; refine ⟨_, rfl, ?_⟩; have n0_ := Aside0.mk (below_step (by repeat (first | (with_reducible first | exact HB.out | apply below_alloc | apply pw_below_drewN | apply below_drew1) | exact HB.out)) hb); clear HB; have HB := n0_; clear n0_; (try clear hb); (try clear hb2); (try clear hk); (try clear hi)))
        go_ret
        exact ⟨by first | rfl | (simp [errW_none, errW_some] <;> rfl) | (simp [*, errW_none, errW_some] <;> rfl), by repeat (first | (with_reducible first | exact HB.out | apply below_alloc | apply pw_below_drewN | apply below_drew1) | exact HB.out)⟩

-- NOT PRINTED: function 5 (lacquerlaw03_SumsSpoilt)

end Go.Proofs.Ytmpkomhcihgphaa.Q
