/- Printed by a program of ours (pp.sh), partly over contracts proved by hand. -/
import Derived.Test.YtmpkomhcihgphaaQx0
import Derived.Test.YtmpkomhcihgphaaQx1
namespace Go.Proofs.Ytmpkomhcihgphaa.Q
open Go.RowKit Go.Proofs.YtmpkomhcihgphaaW.PrintWords Go.Proofs.YtmpkomhcihgphaaW.PrintLast Go.Proofs.YtmpkomhcihgphaaW.PrintMore
attribute [local go_sem] max2_int min2_int max_two min_two max_three min_three max_four min_four   -- for this text's walks alone
set_option linter.unusedVariables false
set_option linter.unusedSimpArgs false

/-! ### lacquerlaw03_SumsNought: function 6 -/
def lacquerlaw03_SumsNought.f (a0 : ByteArray) : Option (Bool) := (sums_Crc8.f a0).bind fun t125 => ((sums_Crc16.f a0).bind fun t126 => ((sums_Ogg.f a0).bind fun t127 => ((some (([(t125) % 256] : List Int) : List Int)).bind fun y128 => (if a0.size + (strOfNums y128).size ≤ 9223372036854775807 then ((some (([(t126 / 256) % 256, (t126) % 256] : List Int) : List Int)).bind fun y131 => (if a0.size + (strOfNums y131).size ≤ 9223372036854775807 then ((some (([(t127 / 16777216) % 256, (t127 / 65536) % 256, (t127 / 256) % 256, (t127) % 256] : List Int) : List Int)).bind fun y134 => (if a0.size + (strOfNums y134).size ≤ 9223372036854775807 then ((sums_Crc8.f (a0 ++ (strOfNums y128))).bind fun t137 => (if t137 = 0 then ((sums_Crc16.f (a0 ++ (strOfNums y131))).bind fun t138 => (if t138 = 0 then ((sums_Ogg.f (a0 ++ (strOfNums y134))).bind fun t139 => (if t139 = 0 then ((lacquerlaw03_awake.f).bind fun t140 => (some t140)) else (none))) else (none))) else (none))) else (none))) else (none))) else (none)))))
set_option maxHeartbeats 8000000 in
set_option maxRecDepth 100000 in
theorem lacquerlaw03_SumsNought.calls (a0 : ByteArray) (r : Bool) (w : World) (h : lacquerlaw03_SumsNought.f a0 = some r) :
    Calls Try.prog 6 #[.string a0] w fun e w' => e = .returned (.bool r) ∧ Below w.heap.size w w' := by
  have HB := Aside0.mk (Below.refl w.heap.size w)
  have H : ((sums_Crc8.f a0).bind fun t125 => ((sums_Crc16.f a0).bind fun t126 => ((sums_Ogg.f a0).bind fun t127 => ((some (([(t125) % 256] : List Int) : List Int)).bind fun y128 => (if a0.size + (strOfNums y128).size ≤ 9223372036854775807 then ((some (([(t126 / 256) % 256, (t126) % 256] : List Int) : List Int)).bind fun y131 => (if a0.size + (strOfNums y131).size ≤ 9223372036854775807 then ((some (([(t127 / 16777216) % 256, (t127 / 65536) % 256, (t127 / 256) % 256, (t127) % 256] : List Int) : List Int)).bind fun y134 => (if a0.size + (strOfNums y134).size ≤ 9223372036854775807 then ((sums_Crc8.f (a0 ++ (strOfNums y128))).bind fun t137 => (if t137 = 0 then ((sums_Crc16.f (a0 ++ (strOfNums y131))).bind fun t138 => (if t138 = 0 then ((sums_Ogg.f (a0 ++ (strOfNums y134))).bind fun t139 => (if t139 = 0 then ((lacquerlaw03_awake.f).bind fun t140 => (some t140)) else (none))) else (none))) else (none))) else (none))) else (none))) else (none)))))) = some r := h
  clear h
  replace H := Option.bind_eq_some_iff.mp H
  obtain ⟨t125, A20, H⟩ := H
  replace H : ((sums_Crc16.f a0).bind fun t126 => ((sums_Ogg.f a0).bind fun t127 => ((some (([(t125) % 256] : List Int) : List Int)).bind fun y128 => (if a0.size + (strOfNums y128).size ≤ 9223372036854775807 then ((some (([(t126 / 256) % 256, (t126) % 256] : List Int) : List Int)).bind fun y131 => (if a0.size + (strOfNums y131).size ≤ 9223372036854775807 then ((some (([(t127 / 16777216) % 256, (t127 / 65536) % 256, (t127 / 256) % 256, (t127) % 256] : List Int) : List Int)).bind fun y134 => (if a0.size + (strOfNums y134).size ≤ 9223372036854775807 then ((sums_Crc8.f (a0 ++ (strOfNums y128))).bind fun t137 => (if t137 = 0 then ((sums_Crc16.f (a0 ++ (strOfNums y131))).bind fun t138 => (if t138 = 0 then ((sums_Ogg.f (a0 ++ (strOfNums y134))).bind fun t139 => (if t139 = 0 then ((lacquerlaw03_awake.f).bind fun t140 => (some t140)) else (none))) else (none))) else (none))) else (none))) else (none))) else (none))))) = some r := H
  have A2 := Aside0.mk A20
  clear A20
  replace H := Option.bind_eq_some_iff.mp H
  obtain ⟨t126, A30, H⟩ := H
  replace H : ((sums_Ogg.f a0).bind fun t127 => ((some (([(t125) % 256] : List Int) : List Int)).bind fun y128 => (if a0.size + (strOfNums y128).size ≤ 9223372036854775807 then ((some (([(t126 / 256) % 256, (t126) % 256] : List Int) : List Int)).bind fun y131 => (if a0.size + (strOfNums y131).size ≤ 9223372036854775807 then ((some (([(t127 / 16777216) % 256, (t127 / 65536) % 256, (t127 / 256) % 256, (t127) % 256] : List Int) : List Int)).bind fun y134 => (if a0.size + (strOfNums y134).size ≤ 9223372036854775807 then ((sums_Crc8.f (a0 ++ (strOfNums y128))).bind fun t137 => (if t137 = 0 then ((sums_Crc16.f (a0 ++ (strOfNums y131))).bind fun t138 => (if t138 = 0 then ((sums_Ogg.f (a0 ++ (strOfNums y134))).bind fun t139 => (if t139 = 0 then ((lacquerlaw03_awake.f).bind fun t140 => (some t140)) else (none))) else (none))) else (none))) else (none))) else (none))) else (none)))) = some r := H
  have A3 := Aside0.mk A30
  clear A30
  replace H := Option.bind_eq_some_iff.mp H
  obtain ⟨t127, A40, H⟩ := H
  replace H : ((some (([(t125) % 256] : List Int) : List Int)).bind fun y128 => (if a0.size + (strOfNums y128).size ≤ 9223372036854775807 then ((some (([(t126 / 256) % 256, (t126) % 256] : List Int) : List Int)).bind fun y131 => (if a0.size + (strOfNums y131).size ≤ 9223372036854775807 then ((some (([(t127 / 16777216) % 256, (t127 / 65536) % 256, (t127 / 256) % 256, (t127) % 256] : List Int) : List Int)).bind fun y134 => (if a0.size + (strOfNums y134).size ≤ 9223372036854775807 then ((sums_Crc8.f (a0 ++ (strOfNums y128))).bind fun t137 => (if t137 = 0 then ((sums_Crc16.f (a0 ++ (strOfNums y131))).bind fun t138 => (if t138 = 0 then ((sums_Ogg.f (a0 ++ (strOfNums y134))).bind fun t139 => (if t139 = 0 then ((lacquerlaw03_awake.f).bind fun t140 => (some t140)) else (none))) else (none))) else (none))) else (none))) else (none))) else (none))) = some r := H
  have A4 := Aside0.mk A40
  clear A40
  obtain ⟨y128, hy128⟩ : ∃ y_ : List Int, y_ = (([(t125) % 256] : List Int)) := ⟨_, rfl⟩
  replace H : (if a0.size + (strOfNums y128).size ≤ 9223372036854775807 then ((some (([(t126 / 256) % 256, (t126) % 256] : List Int) : List Int)).bind fun y131 => (if a0.size + (strOfNums y131).size ≤ 9223372036854775807 then ((some (([(t127 / 16777216) % 256, (t127 / 65536) % 256, (t127 / 256) % 256, (t127) % 256] : List Int) : List Int)).bind fun y134 => (if a0.size + (strOfNums y134).size ≤ 9223372036854775807 then ((sums_Crc8.f (a0 ++ (strOfNums y128))).bind fun t137 => (if t137 = 0 then ((sums_Crc16.f (a0 ++ (strOfNums y131))).bind fun t138 => (if t138 = 0 then ((sums_Ogg.f (a0 ++ (strOfNums y134))).bind fun t139 => (if t139 = 0 then ((lacquerlaw03_awake.f).bind fun t140 => (some t140)) else (none))) else (none))) else (none))) else (none))) else (none))) else (none)) = some r := by first | (rw [hy128]; with_reducible exact H) | (have H2_ := (Option.bind_some _ _).symm.trans H; rw [hy128]; with_reducible exact H2_) | (have H2_ := (Option.bind_some _ _).symm.trans H; with_reducible exact H2_) | with_reducible exact H | (rw [hy128]; exact H) | exact H
  have Ny128 := Aside0.mk hy128
  clear hy128
  by_cases c5 : a0.size + (strOfNums y128).size ≤ 9223372036854775807
  · rw [if_pos c5] at H
    have c5b0 := eq_true c5
    have c5b1 : decide (a0.size + (strOfNums y128).size ≤ 9223372036854775807) = true := decide_eq_true c5
    try have c5b2 : (9223372036854775807 < a0.size + (strOfNums y128).size) = False := eq_false (Nat.not_lt.2 c5)
    obtain ⟨y131, hy131⟩ : ∃ y_ : List Int, y_ = (([(t126 / 256) % 256, (t126) % 256] : List Int)) := ⟨_, rfl⟩
    replace H : (if a0.size + (strOfNums y131).size ≤ 9223372036854775807 then ((some (([(t127 / 16777216) % 256, (t127 / 65536) % 256, (t127 / 256) % 256, (t127) % 256] : List Int) : List Int)).bind fun y134 => (if a0.size + (strOfNums y134).size ≤ 9223372036854775807 then ((sums_Crc8.f (a0 ++ (strOfNums y128))).bind fun t137 => (if t137 = 0 then ((sums_Crc16.f (a0 ++ (strOfNums y131))).bind fun t138 => (if t138 = 0 then ((sums_Ogg.f (a0 ++ (strOfNums y134))).bind fun t139 => (if t139 = 0 then ((lacquerlaw03_awake.f).bind fun t140 => (some t140)) else (none))) else (none))) else (none))) else (none))) else (none)) = some r := by first | (rw [hy131]; with_reducible exact H) | (have H2_ := (Option.bind_some _ _).symm.trans H; rw [hy131]; with_reducible exact H2_) | (have H2_ := (Option.bind_some _ _).symm.trans H; with_reducible exact H2_) | with_reducible exact H | (rw [hy131]; exact H) | exact H
    have Ny131 := Aside0.mk hy131
    clear hy131
    by_cases c6 : a0.size + (strOfNums y131).size ≤ 9223372036854775807
    · rw [if_pos c6] at H
      have c6b0 := eq_true c6
      have c6b1 : decide (a0.size + (strOfNums y131).size ≤ 9223372036854775807) = true := decide_eq_true c6
      try have c6b2 : (9223372036854775807 < a0.size + (strOfNums y131).size) = False := eq_false (Nat.not_lt.2 c6)
      obtain ⟨y134, hy134⟩ : ∃ y_ : List Int, y_ = (([(t127 / 16777216) % 256, (t127 / 65536) % 256, (t127 / 256) % 256, (t127) % 256] : List Int)) := ⟨_, rfl⟩
      replace H : (if a0.size + (strOfNums y134).size ≤ 9223372036854775807 then ((sums_Crc8.f (a0 ++ (strOfNums y128))).bind fun t137 => (if t137 = 0 then ((sums_Crc16.f (a0 ++ (strOfNums y131))).bind fun t138 => (if t138 = 0 then ((sums_Ogg.f (a0 ++ (strOfNums y134))).bind fun t139 => (if t139 = 0 then ((lacquerlaw03_awake.f).bind fun t140 => (some t140)) else (none))) else (none))) else (none))) else (none)) = some r := by first | (rw [hy134]; with_reducible exact H) | (have H2_ := (Option.bind_some _ _).symm.trans H; rw [hy134]; with_reducible exact H2_) | (have H2_ := (Option.bind_some _ _).symm.trans H; with_reducible exact H2_) | with_reducible exact H | (rw [hy134]; exact H) | exact H
      have Ny134 := Aside0.mk hy134
      clear hy134
      by_cases c7 : a0.size + (strOfNums y134).size ≤ 9223372036854775807
      · rw [if_pos c7] at H
        have c7b0 := eq_true c7
        have c7b1 : decide (a0.size + (strOfNums y134).size ≤ 9223372036854775807) = true := decide_eq_true c7
        try have c7b2 : (9223372036854775807 < a0.size + (strOfNums y134).size) = False := eq_false (Nat.not_lt.2 c7)
        replace H := Option.bind_eq_some_iff.mp H
        obtain ⟨t137, A80, H⟩ := H
        replace H : (if t137 = 0 then ((sums_Crc16.f (a0 ++ (strOfNums y131))).bind fun t138 => (if t138 = 0 then ((sums_Ogg.f (a0 ++ (strOfNums y134))).bind fun t139 => (if t139 = 0 then ((lacquerlaw03_awake.f).bind fun t140 => (some t140)) else (none))) else (none))) else (none)) = some r := H
        have A8 := Aside0.mk A80
        clear A80
        by_cases c9 : t137 = 0
        · rw [if_pos c9] at H
          have c9b0 : (t137 == 0) = true := beq_iff_eq.mpr c9
          have c9b1 : (t137 != 0) = false := bne_eq_false_iff_eq.mpr c9
          clear c9
          replace H := Option.bind_eq_some_iff.mp H
          obtain ⟨t138, A100, H⟩ := H
          replace H : (if t138 = 0 then ((sums_Ogg.f (a0 ++ (strOfNums y134))).bind fun t139 => (if t139 = 0 then ((lacquerlaw03_awake.f).bind fun t140 => (some t140)) else (none))) else (none)) = some r := H
          have A10 := Aside0.mk A100
          clear A100
          by_cases c11 : t138 = 0
          · rw [if_pos c11] at H
            have c11b0 : (t138 == 0) = true := beq_iff_eq.mpr c11
            have c11b1 : (t138 != 0) = false := bne_eq_false_iff_eq.mpr c11
            clear c11
            replace H := Option.bind_eq_some_iff.mp H
            obtain ⟨t139, A120, H⟩ := H
            replace H : (if t139 = 0 then ((lacquerlaw03_awake.f).bind fun t140 => (some t140)) else (none)) = some r := H
            have A12 := Aside0.mk A120
            clear A120
            by_cases c13 : t139 = 0
            · rw [if_pos c13] at H
              have c13b0 : (t139 == 0) = true := beq_iff_eq.mpr c13
              have c13b1 : (t139 != 0) = false := bne_eq_false_iff_eq.mpr c13
              clear c13
              replace H := Option.bind_eq_some_iff.mp H
              obtain ⟨t140, A140, H⟩ := H
              replace H : (some t140) = some r := H
              have A14 := Aside0.mk A140
              clear A140
              obtain rfl := Option.some.inj H
              go_enter Try.func6, Try.ntmps6
              go_wp2_with (first | ((with_reducible refine gate_callee (f := 8) rfl ?_); refine goesL_ (some 10) rfl rfl Try.func8 (by kernel_rfl) rfl #[.string a0] rfl (by (try simp only [List.map_toArray, List.map_cons, List.map_nil]); first | done | rfl | (simp only [List.length_drop, List.length_take]; rfl)) ?_; (with_reducible refine (sums_Crc8.calls a0 t125 _ A2.out).mono ?_); rintro e w15 ⟨rfl, hb⟩; refine ⟨_, rfl, ?_⟩; have n0_ := Aside0.mk (below_step (by repeat (first | (with_reducible first | exact HB.out | apply below_alloc | apply pw_below_drewN | apply below_drew1) | exact HB.out)) hb); clear HB; have HB := n0_; clear n0_; (try clear hb); (try clear hb2); (try clear hk); (try clear hi)) | ((with_reducible refine gate_callee (f := 10) rfl ?_); refine goesL_ (some 12) rfl rfl Try.func10 (by kernel_rfl) rfl #[.string a0] rfl (by (try simp only [List.map_toArray, List.map_cons, List.map_nil]); first | done | rfl | (simp only [List.length_drop, List.length_take]; rfl)) ?_; (with_reducible refine (sums_Crc16.calls a0 t126 _ A3.out).mono ?_); rintro e w16 ⟨rfl, hb⟩; refine ⟨_, rfl, ?_⟩; have n0_ := Aside0.mk (below_step (by repeat (first | (with_reducible first | exact HB.out | apply below_alloc | apply pw_below_drewN | apply below_drew1) | exact HB.out)) hb); clear HB; have HB := n0_; clear n0_; (try clear hb); (try clear hb2); (try clear hk); (try clear hi)) | ((with_reducible refine gate_callee (f := 12) rfl ?_); refine goesL_ (some 14) rfl rfl Try.func12 (by kernel_rfl) rfl #[.string a0] rfl (by (try simp only [List.map_toArray, List.map_cons, List.map_nil]); first | done | rfl | (simp only [List.length_drop, List.length_take]; rfl)) ?_; (with_reducible refine (sums_Ogg.calls a0 t127 _ A4.out).mono ?_); rintro e w17 ⟨rfl, hb⟩; refine ⟨_, rfl, ?_⟩; have n0_ := Aside0.mk (below_step (by repeat (first | (with_reducible first | exact HB.out | apply below_alloc | apply pw_below_drewN | apply below_drew1) | exact HB.out)) hb); clear HB; have HB := n0_; clear n0_; (try clear hb); (try clear hb2); (try clear hk); (try clear hi)) | ((with_reducible refine gate_dst (N := 18) rfl ?_); refine Kd.R_lit (Kd.int .u8) _ 5 ?hg (N := 18) ?hd (xs := ([(t125) % 256] : List Int)) (inner := [.int .u8 ((t125) % 256)]) (ok := fun _ => True) (okp := fun _ => True) ?hr ?hp (fun _ hk => hk) trivial (Below.refl _ _) (Nat.le_refl _) (by simp) ?_; (case hd => rfl); (case hg => rfl); (case hr => first | (go_simp; done) | (go_simp; rfl)); (case hp => exact (Reps.one (show Kd.M (Kd.int .u8) _ _ _ ((t125) % 256) [.int .u8 ((t125) % 256)] from rfl) (Reps.none _ _))); intro v129 w18 ho19 hb hg_ hnew_; clear hg_ hnew_; (first | rw [← Ny128.out] at ho19 | (simp only [Int.reduceToNat] at ho19; rw [← Ny128.out] at ho19)); have n0_ := Aside0.mk (Kd.R_lower ho19 (below_size (by repeat (first | (with_reducible first | exact HB.out | apply below_alloc | apply pw_below_drewN | apply below_drew1) | exact HB.out)))); have n1_ := Aside0.mk (below_step (by repeat (first | (with_reducible first | exact HB.out | apply below_alloc | apply pw_below_drewN | apply below_drew1) | exact HB.out)) hb); clear HB; have HO130 := n0_; have HB := n1_; clear n0_ n1_; clear hb ho19; have hcv20 := own_string (P := Try.prog) Try.underlying33 Try.underlying5 Try.underlying9 (Kd.own_of_R HO130.out)) | ((with_reducible refine gate_dst (N := 27) rfl ?_); refine Kd.R_lit (Kd.int .u8) _ 5 ?hg (N := 27) ?hd (xs := ([(t126 / 256) % 256, (t126) % 256] : List Int)) (inner := [.int .u8 ((t126 / 256) % 256), .int .u8 ((t126) % 256)]) (ok := fun _ => True) (okp := fun _ => True) ?hr ?hp (fun _ hk => hk) trivial (Below.refl _ _) (Nat.le_refl _) (by simp) ?_; (case hd => rfl); (case hg => rfl); (case hr => first | (go_simp; done) | (go_simp; rfl)); (case hp => exact (Reps.one (show Kd.M (Kd.int .u8) _ _ _ ((t126 / 256) % 256) [.int .u8 ((t126 / 256) % 256)] from rfl) (Reps.one (show Kd.M (Kd.int .u8) _ _ _ ((t126) % 256) [.int .u8 ((t126) % 256)] from rfl) (Reps.none _ _)))); intro v132 w21 ho22 hb hg_ hnew_; clear hg_ hnew_; (first | rw [← Ny131.out] at ho22 | (simp only [Int.reduceToNat] at ho22; rw [← Ny131.out] at ho22)); have n0_ := Aside0.mk (Kd.R_elder' (by (with_reducible repeat (first | apply Kd.R_alloc | apply Kd.R_drewN | apply Kd.R_drew)); exact HO130.out) (Kd.R_base ho22) hb); have n1_ := Aside0.mk (Kd.R_lower (Kd.R_new' ho22 (Kd.R_lt (by (with_reducible repeat (first | apply Kd.R_alloc | apply Kd.R_drewN | apply Kd.R_drew)); exact HO130.out))) (below_size (by repeat (first | (with_reducible first | exact HB.out | apply below_alloc | apply pw_below_drewN | apply below_drew1) | exact HB.out)))); have n2_ := Aside0.mk (below_step (by repeat (first | (with_reducible first | exact HB.out | apply below_alloc | apply pw_below_drewN | apply below_drew1) | exact HB.out)) hb); clear HO130; clear HB; have HO130 := n0_; have HO133 := n1_; have HB := n2_; clear n0_ n1_ n2_; clear hb ho22; have hcv23 := own_string (P := Try.prog) Try.underlying33 Try.underlying5 Try.underlying9 (Kd.own_of_R HO133.out)) | ((with_reducible refine gate_dst (N := 42) rfl ?_); refine Kd.R_lit (Kd.int .u8) _ 5 ?hg (N := 42) ?hd (xs := ([(t127 / 16777216) % 256, (t127 / 65536) % 256, (t127 / 256) % 256, (t127) % 256] : List Int)) (inner := [.int .u8 ((t127 / 16777216) % 256), .int .u8 ((t127 / 65536) % 256), .int .u8 ((t127 / 256) % 256), .int .u8 ((t127) % 256)]) (ok := fun _ => True) (okp := fun _ => True) ?hr ?hp (fun _ hk => hk) trivial (Below.refl _ _) (Nat.le_refl _) (by simp) ?_; (case hd => rfl); (case hg => rfl); (case hr => first | (go_simp; done) | (go_simp; rfl)); (case hp => exact (Reps.one (show Kd.M (Kd.int .u8) _ _ _ ((t127 / 16777216) % 256) [.int .u8 ((t127 / 16777216) % 256)] from rfl) (Reps.one (show Kd.M (Kd.int .u8) _ _ _ ((t127 / 65536) % 256) [.int .u8 ((t127 / 65536) % 256)] from rfl) (Reps.one (show Kd.M (Kd.int .u8) _ _ _ ((t127 / 256) % 256) [.int .u8 ((t127 / 256) % 256)] from rfl) (Reps.one (show Kd.M (Kd.int .u8) _ _ _ ((t127) % 256) [.int .u8 ((t127) % 256)] from rfl) (Reps.none _ _)))))); intro v135 w24 ho25 hb hg_ hnew_; clear hg_ hnew_; (first | rw [← Ny134.out] at ho25 | (simp only [Int.reduceToNat] at ho25; rw [← Ny134.out] at ho25)); have n0_ := Aside0.mk (Kd.R_elder' (by (with_reducible repeat (first | apply Kd.R_alloc | apply Kd.R_drewN | apply Kd.R_drew)); exact HO130.out) (Kd.R_base ho25) hb); have n1_ := Aside0.mk (Kd.R_elder' (by (with_reducible repeat (first | apply Kd.R_alloc | apply Kd.R_drewN | apply Kd.R_drew)); exact HO133.out) (Kd.R_base ho25) hb); have n2_ := Aside0.mk (Kd.R_lower (Kd.R_new' (Kd.R_new' ho25 (Kd.R_lt (by (with_reducible repeat (first | apply Kd.R_alloc | apply Kd.R_drewN | apply Kd.R_drew)); exact HO130.out))) (Kd.R_lt (by (with_reducible repeat (first | apply Kd.R_alloc | apply Kd.R_drewN | apply Kd.R_drew)); exact HO133.out))) (below_size (by repeat (first | (with_reducible first | exact HB.out | apply below_alloc | apply pw_below_drewN | apply below_drew1) | exact HB.out)))); have n3_ := Aside0.mk (below_step (by repeat (first | (with_reducible first | exact HB.out | apply below_alloc | apply pw_below_drewN | apply below_drew1) | exact HB.out)) hb); clear HO130; clear HO133; clear HB; have HO130 := n0_; have HO133 := n1_; have HO136 := n2_; have HB := n3_; clear n0_ n1_ n2_ n3_; clear hb ho25; have hcv26 := own_string (P := Try.prog) Try.underlying33 Try.underlying5 Try.underlying9 (Kd.own_of_R HO136.out)) | ((with_reducible refine gate_callee (f := 8) rfl ?_); refine goesL_ (some 46) rfl rfl Try.func8 (by kernel_rfl) rfl #[.string (a0 ++ (strOfNums y128))] rfl (by (try simp only [List.map_toArray, List.map_cons, List.map_nil]); first | done | rfl | (simp only [List.length_drop, List.length_take]; rfl)) ?_; (with_reducible refine (sums_Crc8.calls (a0 ++ (strOfNums y128)) t137 _ A8.out).mono ?_); rintro e w27 ⟨rfl, hb⟩; refine ⟨_, rfl, ?_⟩; have n0_ := Aside0.mk (Kd.R_below (by (with_reducible repeat (first | apply Kd.R_alloc | apply Kd.R_drewN | apply Kd.R_drew)); exact HO130.out) hb); have n1_ := Aside0.mk (Kd.R_below (by (with_reducible repeat (first | apply Kd.R_alloc | apply Kd.R_drewN | apply Kd.R_drew)); exact HO133.out) hb); have n2_ := Aside0.mk (Kd.R_below (by (with_reducible repeat (first | apply Kd.R_alloc | apply Kd.R_drewN | apply Kd.R_drew)); exact HO136.out) hb); have n3_ := Aside0.mk (below_step (by repeat (first | (with_reducible first | exact HB.out | apply below_alloc | apply pw_below_drewN | apply below_drew1) | exact HB.out)) hb); clear HO130; clear HO133; clear HO136; clear HB; have HO130 := n0_; have HO133 := n1_; have HO136 := n2_; have HB := n3_; clear n0_ n1_ n2_ n3_; (try clear hb); (try clear hb2); (try clear hk); (try clear hi)) | (go_at_call 10; (with_reducible refine (sums_Crc16.calls (a0 ++ (strOfNums y131)) t138 _ A10.out).mono ?_); rintro e w28 ⟨rfl, hb⟩; have n0_ := Aside0.mk (Kd.R_below (by (with_reducible repeat (first | apply Kd.R_alloc | apply Kd.R_drewN | apply Kd.R_drew)); exact HO130.out) hb); have n1_ := Aside0.mk (Kd.R_below (by (with_reducible repeat (first | apply Kd.R_alloc | apply Kd.R_drewN | apply Kd.R_drew)); exact HO133.out) hb); have n2_ := Aside0.mk (Kd.R_below (by (with_reducible repeat (first | apply Kd.R_alloc | apply Kd.R_drewN | apply Kd.R_drew)); exact HO136.out) hb); have n3_ := Aside0.mk (below_step (by repeat (first | (with_reducible first | exact HB.out | apply below_alloc | apply pw_below_drewN | apply below_drew1) | exact HB.out)) hb); clear HO130; clear HO133; clear HO136; clear HB; have HO130 := n0_; have HO133 := n1_; have HO136 := n2_; have HB := n3_; clear n0_ n1_ n2_ n3_; (try clear hb); (try clear hb2); (try clear hk); (try clear hi)) | (go_at_call 12; (with_reducible refine (sums_Ogg.calls (a0 ++ (strOfNums y134)) t139 _ A12.out).mono ?_); rintro e w29 ⟨rfl, hb⟩; have n0_ := Aside0.mk (Kd.R_below (by (with_reducible repeat (first | apply Kd.R_alloc | apply Kd.R_drewN | apply Kd.R_drew)); exact HO130.out) hb); have n1_ := Aside0.mk (Kd.R_below (by (with_reducible repeat (first | apply Kd.R_alloc | apply Kd.R_drewN | apply Kd.R_drew)); exact HO133.out) hb); have n2_ := Aside0.mk (Kd.R_below (by (with_reducible repeat (first | apply Kd.R_alloc | apply Kd.R_drewN | apply Kd.R_drew)); exact HO136.out) hb); have n3_ := Aside0.mk (below_step (by repeat (first | (with_reducible first | exact HB.out | apply below_alloc | apply pw_below_drewN | apply below_drew1) | exact HB.out)) hb); clear HO130; clear HO133; clear HO136; clear HB; have HO130 := n0_; have HO133 := n1_; have HO136 := n2_; have HB := n3_; clear n0_ n1_ n2_ n3_; (try clear hb); (try clear hb2); (try clear hk); (try clear hi)) | (go_at_call 16; (with_reducible refine (lacquerlaw03_awake.calls  t140 _ A14.out).mono ?_); rintro e w30 ⟨rfl, hb⟩; have n0_ := Aside0.mk (Kd.R_below (by (with_reducible repeat (first | apply Kd.R_alloc | apply Kd.R_drewN | apply Kd.R_drew)); exact HO130.out) hb); have n1_ := Aside0.mk (Kd.R_below (by (with_reducible repeat (first | apply Kd.R_alloc | apply Kd.R_drewN | apply Kd.R_drew)); exact HO133.out) hb); have n2_ := Aside0.mk (Kd.R_below (by (with_reducible repeat (first | apply Kd.R_alloc | apply Kd.R_drewN | apply Kd.R_drew)); exact HO136.out) hb); have n3_ := Aside0.mk (below_step (by repeat (first | (with_reducible first | exact HB.out | apply below_alloc | apply pw_below_drewN | apply below_drew1) | exact HB.out)) hb); clear HO130; clear HO133; clear HO136; clear HB; have HO130 := n0_; have HO133 := n1_; have HO136 := n2_; have HB := n3_; clear n0_ n1_ n2_ n3_; (try clear hb); (try clear hb2); (try clear hk); (try clear hi)))
              go_ret
              exact ⟨by first | rfl | (simp [errW_none, errW_some] <;> rfl) | (simp [*, errW_none, errW_some] <;> rfl), by repeat (first | (with_reducible first | exact HB.out | apply below_alloc | apply pw_below_drewN | apply below_drew1) | exact HB.out)⟩
            · rw [if_neg c13] at H
              exact absurd H (by simp)
          · rw [if_neg c11] at H
            exact absurd H (by simp)
        · rw [if_neg c9] at H
          exact absurd H (by simp)
      · rw [if_neg c7] at H
        exact absurd H (by simp)
    · rw [if_neg c6] at H
      exact absurd H (by simp)
  · rw [if_neg c5] at H
    exact absurd H (by simp)

/-- THE ONE PURE STATEMENT of lacquerlaw03_SumsNought: yours. -/
def lacquerlaw03_SumsNought.Pure : Prop := ∀ (a0 : ByteArray), a0.size ≤ 140737488351232 → lacquerlaw03_SumsNought.f a0 = some true
theorem lacquerlaw03_SumsNought.walk (P : lacquerlaw03_SumsNought.Pure) (a0 : ByteArray) (w : World) (w0 : a0.size ≤ 140737488351232) :
    Calls Try.prog 6 #[.string a0] w fun e w' => e = .returned (.bool true) ∧ Below w.heap.size w w' := by
  have h := P a0 w0
  refine (lacquerlaw03_SumsNought.calls a0 true w h).mono ?_
  rintro e w' ⟨rfl, hd⟩
  exact ⟨rfl, hd⟩

/-! ### lacquerlaw03_SumsStraight: function 7 -/
def lacquerlaw03_SumsStraight.l0 : Nat → ByteArray → ByteArray → Int → List Int → Int → Option (Bool)
  | 0, _, _, _, _, _ => none
  | k + 1, x0, x1, x5, x6, x7 => if x7 < x5 then (if 0 ≤ x7 then (if x7 < (x0.size : Int) then (if x7 < (x1.size : Int) then (if x7 < (x6.length : Int) then (lacquerlaw03_SumsStraight.l0 k x0 x1 x5 (x6.set (x7 : Int).toNat (Go.bits .xor .u8 (bt x0 x7) (bt x1 x7))) (wrap64 (x7 + 1))) else (none)) else (none)) else (none)) else (none)) else (if 0 ≤ x5 then (if x5 ≤ (x0.size : Int) then (if x5 ≤ (x1.size : Int) then ((sums_Crc8.f (strOfNums x6)).bind fun t145 => ((sums_Crc8.f (x0.extract 0 (x5 : Int).toNat)).bind fun t146 => ((sums_Crc8.f (x1.extract 0 (x5 : Int).toNat)).bind fun t147 => (if t145 = (Go.bits .xor .i64 t146 t147) then ((sums_Crc16.f (strOfNums x6)).bind fun t148 => ((sums_Crc16.f (x0.extract 0 (x5 : Int).toNat)).bind fun t149 => ((sums_Crc16.f (x1.extract 0 (x5 : Int).toNat)).bind fun t150 => (if t148 = (Go.bits .xor .i64 t149 t150) then ((sums_Ogg.f (strOfNums x6)).bind fun t151 => ((sums_Ogg.f (x0.extract 0 (x5 : Int).toNat)).bind fun t152 => ((sums_Ogg.f (x1.extract 0 (x5 : Int).toNat)).bind fun t153 => (if t151 = (Go.bits .xor .i64 t152 t153) then ((lacquerlaw03_awake.f).bind fun t154 => (some t154)) else (none))))) else (none))))) else (none))))) else (none)) else (none)) else (none))
def lacquerlaw03_SumsStraight.f (k : Nat) (a0 : ByteArray) (a1 : ByteArray) : Option (Bool) := if 0 ≤ (mn (a0.size : Int) (a1.size : Int)) then (if (mn (a0.size : Int) (a1.size : Int) : Int).toNat ≤ 281474976710656 then (lacquerlaw03_SumsStraight.l0 k a0 a1 (mn (a0.size : Int) (a1.size : Int)) (List.replicate (mn (a0.size : Int) (a1.size : Int) : Int).toNat 0) 0) else (none)) else (none)
theorem lacquerlaw03_SumsStraight.mono_l : ∀ k, (∀ y0 y1 y2 y3 y4, LeO (lacquerlaw03_SumsStraight.l0 k y0 y1 y2 y3 y4) (lacquerlaw03_SumsStraight.l0 (k + 1) y0 y1 y2 y3 y4))
  | 0 => fun _ _ _ _ _ r h => by simp [lacquerlaw03_SumsStraight.l0] at h
  | k + 1 => by
    have ih0 := lacquerlaw03_SumsStraight.mono_l k
    · intro y0 y1 y2 y3 y4
      unfold lacquerlaw03_SumsStraight.l0
      repeat' first
      | (with_reducible exact ih0 _ _ _ _ _)
      | (with_reducible exact LeO.refl _)
      | (with_reducible exact LeO.none _)
      | (with_reducible refine LeO.ite ?_ ?_)
      | (with_reducible refine LeO.bind ?_ (fun _ => ?_))
      | exact ih0 _ _ _ _ _
      | exact LeO.none _
      | refine LeO.ite ?_ ?_
      | refine LeO.bind ?_ (fun _ => ?_)
theorem lacquerlaw03_SumsStraight.mono : ∀ a0 a1 k, LeO (lacquerlaw03_SumsStraight.f k a0 a1) (lacquerlaw03_SumsStraight.f (k + 1) a0 a1) := by
  intro a0 a1 k
  have ih0 := lacquerlaw03_SumsStraight.mono_l k
  unfold lacquerlaw03_SumsStraight.f
  repeat' first
      | (with_reducible exact ih0 _ _ _ _ _)
      | (with_reducible exact LeO.refl _)
      | (with_reducible exact LeO.none _)
      | (with_reducible refine LeO.ite ?_ ?_)
      | (with_reducible refine LeO.bind ?_ (fun _ => ?_))
      | exact ih0 _ _ _ _ _
      | exact LeO.none _
      | refine LeO.ite ?_ ?_
      | refine LeO.bind ?_ (fun _ => ?_)
def lacquerlaw03_SumsStraight.T6 : Bool × List (List Nat × List Nat) := (true, [([], []), ([], []), ([], []), ([], []), ([2, 3], [2, 3]), ([], []), ([], []), ([5, 6], [5, 6]), ([4, 7], [4, 7]), ([0, 1, 0, 1, 2, 3, 4, 5, 6, 7, 8], [0, 1]), ([9, 8, 0, 1, 2, 3, 4, 5, 6, 7, 8], [8, 9])])
def lacquerlaw03_SumsStraight.B6 : List Nat := [0, 0, 0, 0, 12, 0, 0, 96, 252, 511, 1023]
theorem lacquerlaw03_SumsStraight.tab6 : rtab .any (opsOf Try.f7 6) = lacquerlaw03_SumsStraight.T6 := by kernel_rfl
theorem lacquerlaw03_SumsStraight.bits6 : waitsOk lacquerlaw03_SumsStraight.T6.2 lacquerlaw03_SumsStraight.B6 = true := by kernel_rfl
def lacquerlaw03_SumsStraight.T8 : Bool × List (List Nat × List Nat) := (true, [([], []), ([], []), ([0, 1], [0, 1]), ([], []), ([], []), ([3, 4], [3, 4]), ([2, 0, 1, 2], [0, 2]), ([5, 6, 0, 1, 2, 3, 4, 5, 6], [3, 5])])
def lacquerlaw03_SumsStraight.B8 : List Nat := [0, 0, 3, 0, 0, 24, 7, 127]
theorem lacquerlaw03_SumsStraight.tab8 : rtab .any (opsOf Try.f7 8) = lacquerlaw03_SumsStraight.T8 := by kernel_rfl
theorem lacquerlaw03_SumsStraight.bits8 : waitsOk lacquerlaw03_SumsStraight.T8.2 lacquerlaw03_SumsStraight.B8 = true := by kernel_rfl
set_option maxHeartbeats 8000000 in
set_option maxRecDepth 100000 in
theorem lacquerlaw03_SumsStraight.calls (k : Nat) (a0 : ByteArray) (a1 : ByteArray) (r : Bool) (w : World) (h : lacquerlaw03_SumsStraight.f k a0 a1 = some r) :
    Calls Try.prog 7 #[.string a0, .string a1] w fun e w' => e = .returned (.bool r) ∧ Below w.heap.size w w' := by
  have HB := Aside0.mk (Below.refl w.heap.size w)
  have H : (if 0 ≤ (mn (a0.size : Int) (a1.size : Int)) then (if (mn (a0.size : Int) (a1.size : Int) : Int).toNat ≤ 281474976710656 then (lacquerlaw03_SumsStraight.l0 k a0 a1 (mn (a0.size : Int) (a1.size : Int)) (List.replicate (mn (a0.size : Int) (a1.size : Int) : Int).toNat 0) 0) else (none)) else (none)) = some r := h
  clear h
  obtain ⟨ji3, hji3⟩ : ∃ j_ : Int, (mn (a0.size : Int) (a1.size : Int)) = j_ := ⟨_, rfl⟩
  replace H : (if 0 ≤ (ji3) then (if (ji3 : Int).toNat ≤ 281474976710656 then (lacquerlaw03_SumsStraight.l0 k a0 a1 ji3 (List.replicate (ji3 : Int).toNat 0) 0) else (none)) else (none)) = some r := by first | (rw [hji3] at H; exact H) | (simp only [hji3] at H ⊢; exact H)
  (try (have hji3l : 0 ≤ ji3 := by (rw [← hji3]; unfold mn; (repeat' split) <;> omega)))
  (try (have hji3m : 0 ≤ ji3 := by omega))
  have hji3_ : (if (a1.size : Int) < (a0.size : Int) then (a1.size : Int) else (a0.size : Int)) = ji3 := hji3
  have hji3n : (if a1.size < a0.size then (a1.size : Int) else (a0.size : Int)) = ji3 := by (rw [← hji3_]; simp only [Int.ofNat_lt])
  by_cases c4 : 0 ≤ (ji3)
  · rw [if_pos c4] at H
    have c4b0 := eq_true c4
    have c4b1 : decide (0 ≤ (ji3)) = true := decide_eq_true c4
    clear c4
    by_cases c5 : (ji3 : Int).toNat ≤ 281474976710656
    · rw [if_pos c5] at H
      have c5b0 := eq_true c5
      have c5b1 : decide ((ji3 : Int).toNat ≤ 281474976710656) = true := decide_eq_true c5
      clear c5
      obtain ⟨y141, hy141⟩ : ∃ y_ : List Int, y_ = (List.replicate (ji3 : Int).toNat 0) := ⟨_, rfl⟩
      replace H : (lacquerlaw03_SumsStraight.l0 k a0 a1 ji3 y141 0) = some r := by first | (rw [hy141]; with_reducible exact H) | (have H2_ := (Option.bind_some _ _).symm.trans H; rw [hy141]; with_reducible exact H2_) | (have H2_ := (Option.bind_some _ _).symm.trans H; with_reducible exact H2_) | with_reducible exact H | (rw [hy141]; exact H) | exact H
      have Ny141 := Aside0.mk hy141
      clear hy141
      have H' := Aside0.mk H
      clear H
      go_enter Try.func7, Try.ntmps7
      go_wp2_with (first | ((with_reducible refine gate_dst (N := 15) rfl ?_); refine Kd.R_make (Kd.int .u8) _ 5 rfl (N := 15) rfl 33 _ _ rfl ji3 rfl rfl Try.underlying33 (.int .u8 0) 1 info5 rfl (by decide) (by omega) 0 (ok := fun _ => True) (okp := fun _ => True) rfl (fun _ hk => hk) trivial (of_decide_eq_true (by first | (with_reducible assumption) | assumption)) (Nat.le_trans (Nat.mul_le_mul_right _ (of_decide_eq_true (by first | (with_reducible assumption) | assumption) : ji3.toNat ≤ 281474976710656)) (by omega)) (Below.refl _ _) (Nat.le_refl _) ?_; intro v142 w6 ho7 hb hg_ hnew_; clear hg_ hnew_; (first | rw [← Ny141.out] at ho7 | (simp only [Int.reduceToNat] at ho7; rw [← Ny141.out] at ho7)); have n0_ := Aside0.mk (Kd.R_lower ho7 (below_size (by repeat (first | (with_reducible first | exact HB.out | apply below_alloc | apply pw_below_drewN | apply below_drew1) | exact HB.out)))); have n1_ := Aside0.mk (below_step (by repeat (first | (with_reducible first | exact HB.out | apply below_alloc | apply pw_below_drewN | apply below_drew1) | exact HB.out)) hb); clear HB; have HO143 := n0_; have HB := n1_; clear n0_ n1_; clear hb ho7))
      go_loopg [7] k (fun kq v7 w' => ∃ (x6_1 : List Int) (x7_1 : Int), v7 = .int .i64 x7_1 ∧ Aside0 (lacquerlaw03_SumsStraight.l0 kq a0 a1 ji3 x6_1 x7_1 = some r) ∧ Aside0 (kq ≤ k) ∧ Aside0 (Kd.R (Kd.int .u8) 5 w' w.heap.size (fun _ => True) v142 x6_1) ∧ Aside0 (Below w.heap.size w w'))
      case atStart => exact ⟨(y141), (0), (by first | rfl | (simp; done) | (simp [*]; done)), H', ⟨Nat.le_refl _⟩, ⟨by (with_reducible repeat (first | apply Kd.R_alloc | apply Kd.R_drewN | apply Kd.R_drew)); exact HO143.out⟩, ⟨by repeat (first | (with_reducible first | exact HB.out | apply below_alloc | apply pw_below_drewN | apply below_drew1) | exact HB.out)⟩⟩
      case round =>
        clear H'
        try clear p2
        try clear c4
        try clear c4b0
        try clear c4b1
        try clear c5
        try clear c5b0
        try clear c5b1
        try clear c7
        obtain ⟨x6_1, x7_1, rfl, HA, HK1, HO_6, HB⟩ := hrel
        cases gk with
        | zero => exact absurd HA.out (by simp [lacquerlaw03_SumsStraight.l0])
        | succ k1 =>
          have H := HA.out
          clear HA
          simp only [lacquerlaw03_SumsStraight.l0] at H
          by_cases c8 : x7_1 < ji3
          · rw [if_pos c8] at H
            have c8b0 : decide (x7_1 < ji3) = true := decide_eq_true c8
            clear c8
            by_cases c9 : 0 ≤ x7_1
            · rw [if_pos c9] at H
              have c9b0 : decide (0 ≤ x7_1) = true := decide_eq_true c9
              clear c9
              by_cases c10 : x7_1 < (a0.size : Int)
              · rw [if_pos c10] at H
                have c10b0 : decide (x7_1 < (a0.size : Int)) = true := decide_eq_true c10
                clear c10
                by_cases c12 : x7_1 < (a1.size : Int)
                · rw [if_pos c12] at H
                  have c12b0 : decide (x7_1 < (a1.size : Int)) = true := decide_eq_true c12
                  clear c12
                  by_cases c14 : x7_1 < (x6_1.length : Int)
                  · rw [if_pos c14] at H
                    have c14b0 : decide (x7_1 < (x6_1.length : Int)) = true := decide_eq_true c14
                    clear c14
                    obtain ⟨y144, hy144⟩ : ∃ y_ : List Int, y_ = (x6_1.set (x7_1 : Int).toNat (Go.bits .xor .u8 (bt a0 x7_1) (bt a1 x7_1))) := ⟨_, rfl⟩
                    replace H : (lacquerlaw03_SumsStraight.l0 k1 a0 a1 ji3 y144 (wrap64 (x7_1 + 1))) = some r := by first | (rw [hy144]; with_reducible exact H) | (have H2_ := (Option.bind_some _ _).symm.trans H; rw [hy144]; with_reducible exact H2_) | (have H2_ := (Option.bind_some _ _).symm.trans H; with_reducible exact H2_) | with_reducible exact H | (rw [hy144]; exact H) | exact H
                    have Ny144 := Aside0.mk hy144
                    clear hy144
                    have H' := Aside0.mk H
                    clear H
                    try go_wp2
                    have n0_ := Aside0.mk (Kd.R_drew HO_6.out)
                    have n1_ := Aside0.mk (below_drew1 HB.out)
                    clear HO_6
                    clear HB
                    have HO_6 := n0_
                    have HB := n1_
                    clear n0_ n1_
                    have p11 : 0 ≤ (x7_1 : Int) := of_decide_eq_true (by first | (with_reducible assumption) | assumption)
                    have q11 : x7_1 < (a0.size : Int) := of_decide_eq_true (by first | (with_reducible assumption) | assumption)
                    have hx11 := bt_at a0 x7_1
                    replace p11 := eq_true p11
                    replace q11 := eq_true q11
                    have p13 : 0 ≤ (x7_1 : Int) := of_decide_eq_true (by first | (with_reducible assumption) | assumption)
                    have q13 : x7_1 < (a1.size : Int) := of_decide_eq_true (by first | (with_reducible assumption) | assumption)
                    have hx13 := bt_at a1 x7_1
                    replace p13 := eq_true p13
                    replace q13 := eq_true q13
                    have p15 : 0 ≤ (x7_1 : Int) := of_decide_eq_true (by first | (with_reducible assumption) | assumption)
                    have q15 : (x7_1 : Int) < ((x6_1.length : Int) : Int) := of_decide_eq_true (by first | (with_reducible assumption) | assumption)
                    obtain ⟨go15, co15, eo15, gb15, gl15, cl15, HG15⟩ := Kd.R_form HO_6.out (by omega)
                    (first | cases eo15 | (injection eo15 with ea_ en_ ec_; (first | subst ea_ | (injection ea_ with ea_; subst ea_)); subst ec_; clear en_))
                    have GB15 := Aside0.mk gb15
                    have GG15 := Aside0.mk HG15
                    clear gb15 gl15 HG15
                    obtain ⟨hx15_0, hf15_0⟩ := Kd.R_celln 0 HO_6.out (x7_1 : Int) p15 q15
                    replace p15 := eq_true p15
                    replace q15 := eq_true q15
                    have HP17 := Kd.R_putn HO_6.out (x7_1 : Int) (Go.bits .xor .u8 (bt a0 x7_1) (bt a1 x7_1))
                    rw [← Ny144.out] at HP17
                    have HQ17 := Aside0.mk HP17
                    clear HP17
                    refine start_ (n := 11) (S := fun w' => True) (ds := [10]) #[false, false, false, false, false, false, false, false, false, false, false] (by kernel_rfl) rfl rfl trivial (fun hHeld => ?_); refine with_tabW lacquerlaw03_SumsStraight.tab6 lacquerlaw03_SumsStraight.bits6 (fun HT_ HW_ => ?_)
                    generalize wr.drew = w16 at HO_6 HB GG15 HQ17 hf15_0 hx15_0 hHeld ⊢
                    refine pure_ (i := 0) (N := some 21) (v := ?_) (a' := ?_) #[true, false, false, false, false, false, false, false, false, false, false] rfl rfl (any_of HT_.out (by kernel_rfl)) (fun _ _ _ h => h) (Or.inl ⟨by rfl, ?_⟩) ?_ ?_
                    rotate_left
                    · intro w'
                      go_simp
                      with_reducible rfl
                    rotate_left
                    · simp only [Act.put, List.setIfInBounds_toArray, List.set_cons_zero, List.set_cons_succ, i64_w, i32_w]
                      rfl
                    refine pure_ (i := 1) (N := some 22) (v := ?_) (a' := ?_) #[true, true, false, false, false, false, false, false, false, false, false] rfl rfl (any_of HT_.out (by kernel_rfl)) (fun _ _ _ h => h) (Or.inl ⟨by rfl, ?_⟩) ?_ ?_
                    rotate_left
                    · intro w'
                      go_simp
                      with_reducible rfl
                    rotate_left
                    · simp only [Act.put, List.setIfInBounds_toArray, List.set_cons_zero, List.set_cons_succ, i64_w, i32_w]
                      rfl
                    refine pure_ (i := 2) (N := some 23) (v := ?_) (a' := ?_) #[true, true, true, false, false, false, false, false, false, false, false] rfl rfl (any_of HT_.out (by kernel_rfl)) (fun _ _ _ h => h) (Or.inl ⟨by rfl, ?_⟩) ?_ ?_
                    rotate_left
                    · intro w'
                      go_simp
                      with_reducible rfl
                    rotate_left
                    · simp only [Act.put, List.setIfInBounds_toArray, List.set_cons_zero, List.set_cons_succ, i64_w, i32_w]
                      rfl
                    refine pure_ (i := 3) (N := some 24) (v := ?_) (a' := ?_) #[true, true, true, true, false, false, false, false, false, false, false] rfl rfl (any_of HT_.out (by kernel_rfl)) (fun _ _ _ h => h) (Or.inl ⟨by rfl, ?_⟩) ?_ ?_
                    rotate_left
                    · intro w'
                      go_simp
                      with_reducible rfl
                    rotate_left
                    · simp only [Act.put, List.setIfInBounds_toArray, List.set_cons_zero, List.set_cons_succ, i64_w, i32_w]
                      rfl
                    refine pure_ (i := 5) (N := some 26) (v := ?_) (a' := ?_) #[true, true, true, true, false, true, false, false, false, false, false] rfl rfl (any_of HT_.out (by kernel_rfl)) (fun _ _ _ h => h) (Or.inl ⟨by rfl, ?_⟩) ?_ ?_
                    rotate_left
                    · intro w'
                      go_simp
                      with_reducible rfl
                    rotate_left
                    · simp only [Act.put, List.setIfInBounds_toArray, List.set_cons_zero, List.set_cons_succ, i64_w, i32_w]
                      rfl
                    refine pure_ (i := 6) (N := some 27) (v := ?_) (a' := ?_) #[true, true, true, true, false, true, true, false, false, false, false] rfl rfl (any_of HT_.out (by kernel_rfl)) (fun _ _ _ h => h) (Or.inl ⟨by rfl, ?_⟩) ?_ ?_
                    rotate_left
                    · intro w'
                      go_simp
                      with_reducible rfl
                    rotate_left
                    · simp only [Act.put, List.setIfInBounds_toArray, List.set_cons_zero, List.set_cons_succ, i64_w, i32_w]
                      rfl
                    refine take_ (i := 4) (N := some 25) (v := ?_) (a' := ?_) #[true, true, true, true, true, true, true, false, false, false, false] rfl rfl (take_ofW HT_.out HW_.out (by kernel_rfl)) (fun _ _ _ h => h) (Or.inl ⟨by rfl, ?_⟩) hHeld ?_ ?_
                    rotate_left
                    · intro w' _
                      go_simp
                      with_reducible rfl
                    rotate_left
                    · simp only [Act.put, List.setIfInBounds_toArray, List.set_cons_zero, List.set_cons_succ, i64_w, i32_w]
                      rfl
                    refine take_ (i := 7) (N := some 28) (v := ?_) (a' := ?_) #[true, true, true, true, true, true, true, true, false, false, false] rfl rfl (take_ofW HT_.out HW_.out (by kernel_rfl)) (fun _ _ _ h => h) (Or.inl ⟨by rfl, ?_⟩) hHeld ?_ ?_
                    rotate_left
                    · intro w' _
                      go_simp
                      with_reducible rfl
                    rotate_left
                    · simp only [Act.put, List.setIfInBounds_toArray, List.set_cons_zero, List.set_cons_succ, i64_w, i32_w]
                      rfl
                    refine pure_ (i := 8) (N := some 29) (v := ?_) (a' := ?_) #[true, true, true, true, true, true, true, true, true, false, false] rfl rfl (any_of HT_.out (by kernel_rfl)) (fun _ _ _ h => h) (Or.inl ⟨by rfl, ?_⟩) ?_ ?_
                    rotate_left
                    · intro w'
                      go_simp
                      with_reducible rfl
                    rotate_left
                    · simp only [Act.put, List.setIfInBounds_toArray, List.set_cons_zero, List.set_cons_succ, i64_w, i32_w]
                      rfl
                    refine pure_ (i := 9) (N := some 30) (v := ?_) (a' := ?_) #[true, true, true, true, true, true, true, true, true, true, false] rfl rfl (any_of HT_.out (by kernel_rfl)) (fun _ _ _ h => h) (Or.inl ⟨by rfl, ?_⟩) ?_ ?_
                    rotate_left
                    · intro w'
                      go_simp
                      with_reducible rfl
                    rotate_left
                    · simp only [Act.put, List.setIfInBounds_toArray, List.set_cons_zero, List.set_cons_succ, i64_w, i32_w]
                      rfl
                    refine last_ (i := 10) (N := none) #[true, true, true, true, true, true, true, true, true, true, true] rfl rfl (one_of HT_.out (by kernel_rfl)) (by decide) (fun K hK => ?_)
                    refine skip_ (w1 := ?_) (by rfl) rfl ?_ ?_
                    rotate_left
                    · go_simp
                      rfl
                    refine hK.out _ _ ?_
                    clear hK K
                    refine done_ (done_of HT_.out (by kernel_rfl)) ?_
                    try go_wp2
                    go_roundg k1
                    case measure => have := HK1.out; omega
                    case rel => exact ⟨(y144), (wrap64 (x7_1 + 1)), (by first | rfl | (simp; done) | (simp [*]; done)), H', ⟨by have := HK1.out; omega⟩, ⟨by (with_reducible repeat (first | apply Kd.R_alloc | apply Kd.R_drewN | apply Kd.R_drew)); exact HQ17.out⟩, ⟨by repeat (first | (with_reducible first | exact HB.out | apply below_alloc | apply pw_below_drewN | apply below_drew1 | refine below_set ?_ GB15.out) | exact HB.out)⟩⟩
                  · rw [if_neg c14] at H
                    exact absurd H (by simp)
                · rw [if_neg c12] at H
                  exact absurd H (by simp)
              · rw [if_neg c10] at H
                exact absurd H (by simp)
            · rw [if_neg c9] at H
              exact absurd H (by simp)
          · rw [if_neg c8] at H
            have c8b0 : decide (x7_1 < ji3) = false := decide_eq_false c8
            clear c8
            by_cases c18 : 0 ≤ ji3
            · rw [if_pos c18] at H
              have c18b0 := eq_true c18
              have c18b1 : decide (0 ≤ ji3) = true := decide_eq_true c18
              clear c18
              by_cases c19 : ji3 ≤ (a0.size : Int)
              · rw [if_pos c19] at H
                have c19b0 := eq_true c19
                have c19b1 : decide (ji3 ≤ (a0.size : Int)) = true := decide_eq_true c19
                clear c19
                have c20b0 := eq_true (of_decide_eq_true (by first | (with_reducible assumption) | assumption) : 0 ≤ ji3)
                by_cases c21 : ji3 ≤ (a1.size : Int)
                · rw [if_pos c21] at H
                  have c21b0 := eq_true c21
                  have c21b1 : decide (ji3 ≤ (a1.size : Int)) = true := decide_eq_true c21
                  clear c21
                  replace H := Option.bind_eq_some_iff.mp H
                  obtain ⟨t145, A220, H⟩ := H
                  replace H : ((sums_Crc8.f (a0.extract 0 (ji3 : Int).toNat)).bind fun t146 => ((sums_Crc8.f (a1.extract 0 (ji3 : Int).toNat)).bind fun t147 => (if t145 = (Go.bits .xor .i64 t146 t147) then ((sums_Crc16.f (strOfNums x6_1)).bind fun t148 => ((sums_Crc16.f (a0.extract 0 (ji3 : Int).toNat)).bind fun t149 => ((sums_Crc16.f (a1.extract 0 (ji3 : Int).toNat)).bind fun t150 => (if t148 = (Go.bits .xor .i64 t149 t150) then ((sums_Ogg.f (strOfNums x6_1)).bind fun t151 => ((sums_Ogg.f (a0.extract 0 (ji3 : Int).toNat)).bind fun t152 => ((sums_Ogg.f (a1.extract 0 (ji3 : Int).toNat)).bind fun t153 => (if t151 = (Go.bits .xor .i64 t152 t153) then ((lacquerlaw03_awake.f).bind fun t154 => (some t154)) else (none))))) else (none))))) else (none)))) = some r := H
                  have A22 := Aside0.mk A220
                  clear A220
                  replace H := Option.bind_eq_some_iff.mp H
                  obtain ⟨t146, A230, H⟩ := H
                  replace H : ((sums_Crc8.f (a1.extract 0 (ji3 : Int).toNat)).bind fun t147 => (if t145 = (Go.bits .xor .i64 t146 t147) then ((sums_Crc16.f (strOfNums x6_1)).bind fun t148 => ((sums_Crc16.f (a0.extract 0 (ji3 : Int).toNat)).bind fun t149 => ((sums_Crc16.f (a1.extract 0 (ji3 : Int).toNat)).bind fun t150 => (if t148 = (Go.bits .xor .i64 t149 t150) then ((sums_Ogg.f (strOfNums x6_1)).bind fun t151 => ((sums_Ogg.f (a0.extract 0 (ji3 : Int).toNat)).bind fun t152 => ((sums_Ogg.f (a1.extract 0 (ji3 : Int).toNat)).bind fun t153 => (if t151 = (Go.bits .xor .i64 t152 t153) then ((lacquerlaw03_awake.f).bind fun t154 => (some t154)) else (none))))) else (none))))) else (none))) = some r := H
                  have A23 := Aside0.mk A230
                  clear A230
                  replace H := Option.bind_eq_some_iff.mp H
                  obtain ⟨t147, A240, H⟩ := H
                  replace H : (if t145 = (Go.bits .xor .i64 t146 t147) then ((sums_Crc16.f (strOfNums x6_1)).bind fun t148 => ((sums_Crc16.f (a0.extract 0 (ji3 : Int).toNat)).bind fun t149 => ((sums_Crc16.f (a1.extract 0 (ji3 : Int).toNat)).bind fun t150 => (if t148 = (Go.bits .xor .i64 t149 t150) then ((sums_Ogg.f (strOfNums x6_1)).bind fun t151 => ((sums_Ogg.f (a0.extract 0 (ji3 : Int).toNat)).bind fun t152 => ((sums_Ogg.f (a1.extract 0 (ji3 : Int).toNat)).bind fun t153 => (if t151 = (Go.bits .xor .i64 t152 t153) then ((lacquerlaw03_awake.f).bind fun t154 => (some t154)) else (none))))) else (none))))) else (none)) = some r := H
                  have A24 := Aside0.mk A240
                  clear A240
                  by_cases c25 : t145 = (Go.bits .xor .i64 t146 t147)
                  · rw [if_pos c25] at H
                    have c25b0 : (t145 == (Go.bits .xor .i64 t146 t147)) = true := beq_iff_eq.mpr c25
                    have c25b1 : (t145 != (Go.bits .xor .i64 t146 t147)) = false := bne_eq_false_iff_eq.mpr c25
                    clear c25
                    replace H := Option.bind_eq_some_iff.mp H
                    obtain ⟨t148, A260, H⟩ := H
                    replace H : ((sums_Crc16.f (a0.extract 0 (ji3 : Int).toNat)).bind fun t149 => ((sums_Crc16.f (a1.extract 0 (ji3 : Int).toNat)).bind fun t150 => (if t148 = (Go.bits .xor .i64 t149 t150) then ((sums_Ogg.f (strOfNums x6_1)).bind fun t151 => ((sums_Ogg.f (a0.extract 0 (ji3 : Int).toNat)).bind fun t152 => ((sums_Ogg.f (a1.extract 0 (ji3 : Int).toNat)).bind fun t153 => (if t151 = (Go.bits .xor .i64 t152 t153) then ((lacquerlaw03_awake.f).bind fun t154 => (some t154)) else (none))))) else (none)))) = some r := H
                    have A26 := Aside0.mk A260
                    clear A260
                    replace H := Option.bind_eq_some_iff.mp H
                    obtain ⟨t149, A270, H⟩ := H
                    replace H : ((sums_Crc16.f (a1.extract 0 (ji3 : Int).toNat)).bind fun t150 => (if t148 = (Go.bits .xor .i64 t149 t150) then ((sums_Ogg.f (strOfNums x6_1)).bind fun t151 => ((sums_Ogg.f (a0.extract 0 (ji3 : Int).toNat)).bind fun t152 => ((sums_Ogg.f (a1.extract 0 (ji3 : Int).toNat)).bind fun t153 => (if t151 = (Go.bits .xor .i64 t152 t153) then ((lacquerlaw03_awake.f).bind fun t154 => (some t154)) else (none))))) else (none))) = some r := H
                    have A27 := Aside0.mk A270
                    clear A270
                    replace H := Option.bind_eq_some_iff.mp H
                    obtain ⟨t150, A280, H⟩ := H
                    replace H : (if t148 = (Go.bits .xor .i64 t149 t150) then ((sums_Ogg.f (strOfNums x6_1)).bind fun t151 => ((sums_Ogg.f (a0.extract 0 (ji3 : Int).toNat)).bind fun t152 => ((sums_Ogg.f (a1.extract 0 (ji3 : Int).toNat)).bind fun t153 => (if t151 = (Go.bits .xor .i64 t152 t153) then ((lacquerlaw03_awake.f).bind fun t154 => (some t154)) else (none))))) else (none)) = some r := H
                    have A28 := Aside0.mk A280
                    clear A280
                    by_cases c29 : t148 = (Go.bits .xor .i64 t149 t150)
                    · rw [if_pos c29] at H
                      have c29b0 : (t148 == (Go.bits .xor .i64 t149 t150)) = true := beq_iff_eq.mpr c29
                      have c29b1 : (t148 != (Go.bits .xor .i64 t149 t150)) = false := bne_eq_false_iff_eq.mpr c29
                      clear c29
                      replace H := Option.bind_eq_some_iff.mp H
                      obtain ⟨t151, A300, H⟩ := H
                      replace H : ((sums_Ogg.f (a0.extract 0 (ji3 : Int).toNat)).bind fun t152 => ((sums_Ogg.f (a1.extract 0 (ji3 : Int).toNat)).bind fun t153 => (if t151 = (Go.bits .xor .i64 t152 t153) then ((lacquerlaw03_awake.f).bind fun t154 => (some t154)) else (none)))) = some r := H
                      have A30 := Aside0.mk A300
                      clear A300
                      replace H := Option.bind_eq_some_iff.mp H
                      obtain ⟨t152, A310, H⟩ := H
                      replace H : ((sums_Ogg.f (a1.extract 0 (ji3 : Int).toNat)).bind fun t153 => (if t151 = (Go.bits .xor .i64 t152 t153) then ((lacquerlaw03_awake.f).bind fun t154 => (some t154)) else (none))) = some r := H
                      have A31 := Aside0.mk A310
                      clear A310
                      replace H := Option.bind_eq_some_iff.mp H
                      obtain ⟨t153, A320, H⟩ := H
                      replace H : (if t151 = (Go.bits .xor .i64 t152 t153) then ((lacquerlaw03_awake.f).bind fun t154 => (some t154)) else (none)) = some r := H
                      have A32 := Aside0.mk A320
                      clear A320
                      by_cases c33 : t151 = (Go.bits .xor .i64 t152 t153)
                      · rw [if_pos c33] at H
                        have c33b0 : (t151 == (Go.bits .xor .i64 t152 t153)) = true := beq_iff_eq.mpr c33
                        have c33b1 : (t151 != (Go.bits .xor .i64 t152 t153)) = false := bne_eq_false_iff_eq.mpr c33
                        clear c33
                        replace H := Option.bind_eq_some_iff.mp H
                        obtain ⟨t154, A340, H⟩ := H
                        replace H : (some t154) = some r := H
                        have A34 := Aside0.mk A340
                        clear A340
                        obtain rfl := Option.some.inj H
                        have hcv35 := own_string (P := Try.prog) Try.underlying33 Try.underlying5 Try.underlying9 (Kd.own_of_R HO_6.out)
                        try go_wp2
                        have n0_ := Aside0.mk (Kd.R_drew HO_6.out)
                        have n1_ := Aside0.mk (below_drew1 HB.out)
                        clear HO_6
                        clear HB
                        have HO_6 := n0_
                        have HB := n1_
                        clear n0_ n1_
                        refine start_ (n := 8) (S := fun w' => True) (ds := []) #[false, false, false, false, false, false, false, false] (by kernel_rfl) rfl rfl trivial (fun hHeld => ?_); refine with_tabW lacquerlaw03_SumsStraight.tab8 lacquerlaw03_SumsStraight.bits8 (fun HT_ HW_ => ?_)
                        generalize wr.drew = w36 at HO_6 HB hHeld ⊢
                        refine pure_ (i := 0) (N := some 33) (v := ?_) (a' := ?_) #[true, false, false, false, false, false, false, false] rfl rfl (any_of HT_.out (by kernel_rfl)) (fun _ _ _ h => h) (Or.inl ⟨by rfl, ?_⟩) ?_ ?_
                        rotate_left
                        · intro w'
                          go_simp
                          with_reducible rfl
                        rotate_left
                        · simp only [Act.put, List.setIfInBounds_toArray, List.set_cons_zero, List.set_cons_succ, i64_w, i32_w]
                          rfl
                        refine pure_ (i := 1) (N := some 34) (v := ?_) (a' := ?_) #[true, true, false, false, false, false, false, false] rfl rfl (any_of HT_.out (by kernel_rfl)) (fun _ _ _ h => h) (Or.inl ⟨by rfl, ?_⟩) ?_ ?_
                        rotate_left
                        · intro w'
                          go_simp
                          with_reducible rfl
                        rotate_left
                        · simp only [Act.put, List.setIfInBounds_toArray, List.set_cons_zero, List.set_cons_succ, i64_w, i32_w]
                          rfl
                        refine pure_ (i := 2) (N := some 35) (v := ?_) (a' := ?_) #[true, true, true, false, false, false, false, false] rfl rfl (any_of HT_.out (by kernel_rfl)) (fun _ _ _ h => h) (Or.inl ⟨by rfl, ?_⟩) ?_ ?_
                        rotate_left
                        · intro w'
                          go_simp
                          with_reducible rfl
                        rotate_left
                        · simp only [Act.put, List.setIfInBounds_toArray, List.set_cons_zero, List.set_cons_succ, i64_w, i32_w]
                          rfl
                        refine pure_ (i := 3) (N := some 36) (v := ?_) (a' := ?_) #[true, true, true, true, false, false, false, false] rfl rfl (any_of HT_.out (by kernel_rfl)) (fun _ _ _ h => h) (Or.inl ⟨by rfl, ?_⟩) ?_ ?_
                        rotate_left
                        · intro w'
                          go_simp
                          with_reducible rfl
                        rotate_left
                        · simp only [Act.put, List.setIfInBounds_toArray, List.set_cons_zero, List.set_cons_succ, i64_w, i32_w]
                          rfl
                        refine pure_ (i := 4) (N := some 37) (v := ?_) (a' := ?_) #[true, true, true, true, true, false, false, false] rfl rfl (any_of HT_.out (by kernel_rfl)) (fun _ _ _ h => h) (Or.inl ⟨by rfl, ?_⟩) ?_ ?_
                        rotate_left
                        · intro w'
                          go_simp
                          with_reducible rfl
                        rotate_left
                        · simp only [Act.put, List.setIfInBounds_toArray, List.set_cons_zero, List.set_cons_succ, i64_w, i32_w]
                          rfl
                        refine pure_ (i := 5) (N := some 38) (v := ?_) (a' := ?_) #[true, true, true, true, true, true, false, false] rfl rfl (any_of HT_.out (by kernel_rfl)) (fun _ _ _ h => h) (Or.inl ⟨by rfl, ?_⟩) ?_ ?_
                        rotate_left
                        · intro w'
                          go_simp
                          with_reducible rfl
                        rotate_left
                        · simp only [Act.put, List.setIfInBounds_toArray, List.set_cons_zero, List.set_cons_succ, i64_w, i32_w]
                          rfl
                        refine pure_ (i := 6) (N := some 0) (v := ?_) (a' := ?_) #[true, true, true, true, true, true, true, false] rfl rfl (any_of HT_.out (by kernel_rfl)) (fun _ _ _ h => h) (Or.inl ⟨by rfl, ?_⟩) ?_ ?_
                        rotate_left
                        · intro w'
                          go_simp
                          with_reducible rfl
                        rotate_left
                        · simp only [Act.put, List.setIfInBounds_toArray, List.set_cons_zero, List.set_cons_succ, i64_w, i32_w]
                          rfl
                        refine pure_ (i := 7) (N := some 1) (v := ?_) (a' := ?_) #[true, true, true, true, true, true, true, true] rfl rfl (any_of HT_.out (by kernel_rfl)) (fun _ _ _ h => h) (Or.inl ⟨by rfl, ?_⟩) ?_ ?_
                        rotate_left
                        · intro w'
                          go_simp
                          with_reducible rfl
                        rotate_left
                        · simp only [Act.put, List.setIfInBounds_toArray, List.set_cons_zero, List.set_cons_succ, i64_w, i32_w]
                          rfl
                        refine done_ (done_of HT_.out (by kernel_rfl)) ?_
                        try go_wp2_with (first | ((with_reducible refine gate_callee (f := 8) rfl ?_); refine goesL_ (some 40) rfl rfl Try.func8 (by kernel_rfl) rfl #[.string (strOfNums x6_1)] rfl (by (try simp only [List.map_toArray, List.map_cons, List.map_nil]); first | done | rfl | (simp only [List.length_drop, List.length_take]; rfl)) ?_; (with_reducible refine (sums_Crc8.calls (strOfNums x6_1) t145 _ A22.out).mono ?_); rintro e w37 ⟨rfl, hb⟩; refine ⟨_, rfl, ?_⟩; have n0_ := Aside0.mk (Kd.R_below (by (with_reducible repeat (first | apply Kd.R_alloc | apply Kd.R_drewN | apply Kd.R_drew)); exact HO_6.out) hb); have n1_ := Aside0.mk (below_step (by repeat (first | (with_reducible first | exact HB.out | apply below_alloc | apply pw_below_drewN | apply below_drew1) | exact HB.out)) hb); clear HO_6; clear HB; have HO_6 := n0_; have HB := n1_; clear n0_ n1_; (try clear hb); (try clear hb2); (try clear hk); (try clear hi)) | ((with_reducible refine gate_callee (f := 8) rfl ?_); refine goesL_ (some 42) rfl rfl Try.func8 (by kernel_rfl) rfl #[.string (a0.extract 0 (ji3 : Int).toNat)] rfl (by (try simp only [List.map_toArray, List.map_cons, List.map_nil]); first | done | (simp only [hji3]; rfl) | rfl | (simp only [List.length_drop, List.length_take]; rfl)) ?_; (with_reducible refine (sums_Crc8.calls (a0.extract 0 (ji3 : Int).toNat) t146 _ A23.out).mono ?_); rintro e w38 ⟨rfl, hb⟩; refine ⟨_, rfl, ?_⟩; have n0_ := Aside0.mk (Kd.R_below (by (with_reducible repeat (first | apply Kd.R_alloc | apply Kd.R_drewN | apply Kd.R_drew)); exact HO_6.out) hb); have n1_ := Aside0.mk (below_step (by repeat (first | (with_reducible first | exact HB.out | apply below_alloc | apply pw_below_drewN | apply below_drew1) | exact HB.out)) hb); clear HO_6; clear HB; have HO_6 := n0_; have HB := n1_; clear n0_ n1_; (try clear hb); (try clear hb2); (try clear hk); (try clear hi)) | ((with_reducible refine gate_callee (f := 8) rfl ?_); refine goesL_ (some 44) rfl rfl Try.func8 (by kernel_rfl) rfl #[.string (a1.extract 0 (ji3 : Int).toNat)] rfl (by (try simp only [List.map_toArray, List.map_cons, List.map_nil]); first | done | (simp only [hji3]; rfl) | rfl | (simp only [List.length_drop, List.length_take]; rfl)) ?_; (with_reducible refine (sums_Crc8.calls (a1.extract 0 (ji3 : Int).toNat) t147 _ A24.out).mono ?_); rintro e w39 ⟨rfl, hb⟩; refine ⟨_, rfl, ?_⟩; have n0_ := Aside0.mk (Kd.R_below (by (with_reducible repeat (first | apply Kd.R_alloc | apply Kd.R_drewN | apply Kd.R_drew)); exact HO_6.out) hb); have n1_ := Aside0.mk (below_step (by repeat (first | (with_reducible first | exact HB.out | apply below_alloc | apply pw_below_drewN | apply below_drew1) | exact HB.out)) hb); clear HO_6; clear HB; have HO_6 := n0_; have HB := n1_; clear n0_ n1_; (try clear hb); (try clear hb2); (try clear hk); (try clear hi)) | (go_at_call 10; (with_reducible refine (sums_Crc16.calls (strOfNums x6_1) t148 _ A26.out).mono ?_); rintro e w40 ⟨rfl, hb⟩; have n0_ := Aside0.mk (Kd.R_below (by (with_reducible repeat (first | apply Kd.R_alloc | apply Kd.R_drewN | apply Kd.R_drew)); exact HO_6.out) hb); have n1_ := Aside0.mk (below_step (by repeat (first | (with_reducible first | exact HB.out | apply below_alloc | apply pw_below_drewN | apply below_drew1) | exact HB.out)) hb); clear HO_6; clear HB; have HO_6 := n0_; have HB := n1_; clear n0_ n1_; (try clear hb); (try clear hb2); (try clear hk); (try clear hi)) | (go_at_call 10; (with_reducible refine (sums_Crc16.calls (a0.extract 0 (ji3 : Int).toNat) t149 _ A27.out).mono ?_); rintro e w41 ⟨rfl, hb⟩; have n0_ := Aside0.mk (Kd.R_below (by (with_reducible repeat (first | apply Kd.R_alloc | apply Kd.R_drewN | apply Kd.R_drew)); exact HO_6.out) hb); have n1_ := Aside0.mk (below_step (by repeat (first | (with_reducible first | exact HB.out | apply below_alloc | apply pw_below_drewN | apply below_drew1) | exact HB.out)) hb); clear HO_6; clear HB; have HO_6 := n0_; have HB := n1_; clear n0_ n1_; (try clear hb); (try clear hb2); (try clear hk); (try clear hi)) | (go_at_call 10; (with_reducible refine (sums_Crc16.calls (a1.extract 0 (ji3 : Int).toNat) t150 _ A28.out).mono ?_); rintro e w42 ⟨rfl, hb⟩; have n0_ := Aside0.mk (Kd.R_below (by (with_reducible repeat (first | apply Kd.R_alloc | apply Kd.R_drewN | apply Kd.R_drew)); exact HO_6.out) hb); have n1_ := Aside0.mk (below_step (by repeat (first | (with_reducible first | exact HB.out | apply below_alloc | apply pw_below_drewN | apply below_drew1) | exact HB.out)) hb); clear HO_6; clear HB; have HO_6 := n0_; have HB := n1_; clear n0_ n1_; (try clear hb); (try clear hb2); (try clear hk); (try clear hi)) | (go_at_call 12; (with_reducible refine (sums_Ogg.calls (strOfNums x6_1) t151 _ A30.out).mono ?_); rintro e w43 ⟨rfl, hb⟩; have n0_ := Aside0.mk (Kd.R_below (by (with_reducible repeat (first | apply Kd.R_alloc | apply Kd.R_drewN | apply Kd.R_drew)); exact HO_6.out) hb); have n1_ := Aside0.mk (below_step (by repeat (first | (with_reducible first | exact HB.out | apply below_alloc | apply pw_below_drewN | apply below_drew1) | exact HB.out)) hb); clear HO_6; clear HB; have HO_6 := n0_; have HB := n1_; clear n0_ n1_; (try clear hb); (try clear hb2); (try clear hk); (try clear hi)) | (go_at_call 12; (with_reducible refine (sums_Ogg.calls (a0.extract 0 (ji3 : Int).toNat) t152 _ A31.out).mono ?_); rintro e w44 ⟨rfl, hb⟩; have n0_ := Aside0.mk (Kd.R_below (by (with_reducible repeat (first | apply Kd.R_alloc | apply Kd.R_drewN | apply Kd.R_drew)); exact HO_6.out) hb); have n1_ := Aside0.mk (below_step (by repeat (first | (with_reducible first | exact HB.out | apply below_alloc | apply pw_below_drewN | apply below_drew1) | exact HB.out)) hb); clear HO_6; clear HB; have HO_6 := n0_; have HB := n1_; clear n0_ n1_; (try clear hb); (try clear hb2); (try clear hk); (try clear hi)) | (go_at_call 12; (with_reducible refine (sums_Ogg.calls (a1.extract 0 (ji3 : Int).toNat) t153 _ A32.out).mono ?_); rintro e w45 ⟨rfl, hb⟩; have n0_ := Aside0.mk (Kd.R_below (by (with_reducible repeat (first | apply Kd.R_alloc | apply Kd.R_drewN | apply Kd.R_drew)); exact HO_6.out) hb); have n1_ := Aside0.mk (below_step (by repeat (first | (with_reducible first | exact HB.out | apply below_alloc | apply pw_below_drewN | apply below_drew1) | exact HB.out)) hb); clear HO_6; clear HB; have HO_6 := n0_; have HB := n1_; clear n0_ n1_; (try clear hb); (try clear hb2); (try clear hk); (try clear hi)) | (go_at_call 16; (with_reducible refine (lacquerlaw03_awake.calls  t154 _ A34.out).mono ?_); rintro e w46 ⟨rfl, hb⟩; have n0_ := Aside0.mk (Kd.R_below (by (with_reducible repeat (first | apply Kd.R_alloc | apply Kd.R_drewN | apply Kd.R_drew)); exact HO_6.out) hb); have n1_ := Aside0.mk (below_step (by repeat (first | (with_reducible first | exact HB.out | apply below_alloc | apply pw_below_drewN | apply below_drew1) | exact HB.out)) hb); clear HO_6; clear HB; have HO_6 := n0_; have HB := n1_; clear n0_ n1_; (try clear hb); (try clear hb2); (try clear hk); (try clear hi)))
                        go_ret
                        exact ⟨by first | rfl | (simp [errW_none, errW_some] <;> rfl) | (simp only [← hji3]; first | rfl | (simp [errW_none, errW_some] <;> rfl)) | (simp [*, errW_none, errW_some] <;> rfl), by repeat (first | (with_reducible first | exact HB.out | apply below_alloc | apply pw_below_drewN | apply below_drew1) | exact HB.out)⟩
                      · rw [if_neg c33] at H
                        exact absurd H (by simp)
                    · rw [if_neg c29] at H
                      exact absurd H (by simp)
                  · rw [if_neg c25] at H
                    exact absurd H (by simp)
                · rw [if_neg c21] at H
                  exact absurd H (by simp)
              · rw [if_neg c19] at H
                exact absurd H (by simp)
            · rw [if_neg c18] at H
              exact absurd H (by simp)
    · rw [if_neg c5] at H
      exact absurd H (by simp)
  · rw [if_neg c4] at H
    exact absurd H (by simp)

/-- THE ONE PURE STATEMENT of lacquerlaw03_SumsStraight: yours. -/
def lacquerlaw03_SumsStraight.Pure : Prop := ∀ (a0 : ByteArray) (a1 : ByteArray), a0.size ≤ 140737488351232 → a1.size ≤ 140737488351232 → ∃ k, lacquerlaw03_SumsStraight.f k a0 a1 = some true
theorem lacquerlaw03_SumsStraight.walk (P : lacquerlaw03_SumsStraight.Pure) (a0 : ByteArray) (a1 : ByteArray) (w : World) (w0 : a0.size ≤ 140737488351232) (w1 : a1.size ≤ 140737488351232) :
    Calls Try.prog 7 #[.string a0, .string a1] w fun e w' => e = .returned (.bool true) ∧ Below w.heap.size w w' := by
  obtain ⟨k, h⟩ := P a0 a1 w0 w1
  refine (lacquerlaw03_SumsStraight.calls k a0 a1 true w h).mono ?_
  rintro e w' ⟨rfl, hd⟩
  exact ⟨rfl, hd⟩

/-! ### lacquerref03_Of: function 18 -/
def lacquerref03_Of.f (k : Nat) (a0 : Int) (a1 : ByteArray) : Option (Int × Bool) := if a0 = 8 then ((lacquerref03_Crc8.f k a1).bind fun t155 => (some (t155, true))) else (if a0 = 16 then ((lacquerref03_Crc16.f k a1).bind fun t156 => (some (t156, true))) else (if a0 = 32 then ((lacquerref03_Ogg.f k a1).bind fun t157 => (some (t157, true))) else (if a0 = 33 then ((lacquerref03_Crc32.f k a1).bind fun t158 => (some (t158, true))) else (some (0, false)))))
theorem lacquerref03_Of.mono : ∀ a0 a1 k, LeO (lacquerref03_Of.f k a0 a1) (lacquerref03_Of.f (k + 1) a0 a1) := by
  intro a0 a1 k
  unfold lacquerref03_Of.f
  repeat' first
      | (with_reducible exact lacquerref03_Crc16.mono _ _)
      | (with_reducible exact lacquerref03_Crc32.mono _ _)
      | (with_reducible exact lacquerref03_Crc8.mono _ _)
      | (with_reducible exact lacquerref03_Ogg.mono _ _)
      | (with_reducible exact LeO.refl _)
      | (with_reducible exact LeO.none _)
      | (with_reducible refine LeO.ite ?_ ?_)
      | (with_reducible refine LeO.bind ?_ (fun _ => ?_))
      | exact lacquerref03_Crc16.mono _ _
      | exact lacquerref03_Crc32.mono _ _
      | exact lacquerref03_Crc8.mono _ _
      | exact lacquerref03_Ogg.mono _ _
      | exact LeO.none _
      | refine LeO.ite ?_ ?_
      | refine LeO.bind ?_ (fun _ => ?_)
set_option maxHeartbeats 8000000 in
set_option maxRecDepth 100000 in
theorem lacquerref03_Of.calls (k : Nat) (a0 : Int) (a1 : ByteArray) (r1 : Int) (r2 : Bool) (w : World) (h : lacquerref03_Of.f k a0 a1 = some (r1, r2)) :
    Calls Try.prog 18 #[.int .i64 a0, .string a1] w fun e w' => e = .returned (.tuple #[.int .i64 r1, .bool r2]) ∧ Drawn0 w w' := by
  have H : (if a0 = 8 then ((lacquerref03_Crc8.f k a1).bind fun t155 => (some (t155, true))) else (if a0 = 16 then ((lacquerref03_Crc16.f k a1).bind fun t156 => (some (t156, true))) else (if a0 = 32 then ((lacquerref03_Ogg.f k a1).bind fun t157 => (some (t157, true))) else (if a0 = 33 then ((lacquerref03_Crc32.f k a1).bind fun t158 => (some (t158, true))) else (some (0, false)))))) = some (r1, r2) := h
  clear h
  by_cases c3 : a0 = 8
  · rw [if_pos c3] at H
    have c3b0 : (a0 == 8) = true := beq_iff_eq.mpr c3
    have c3b1 : (a0 != 8) = false := bne_eq_false_iff_eq.mpr c3
    clear c3
    replace H := Option.bind_eq_some_iff.mp H
    obtain ⟨t155, A40, H⟩ := H
    replace H : (some (t155, true)) = some (r1, r2) := H
    have A4 := Aside0.mk A40
    clear A40
    simp only [Option.some.injEq, Prod.mk.injEq] at H
    obtain ⟨rfl, rfl⟩ := H
    go_enter Try.func18, Try.ntmps18
    go_wp2_with (first | ((with_reducible refine gate_callee (f := 9) rfl ?_); refine goesL_ (some 10) rfl rfl Try.func9 (by kernel_rfl) rfl #[.string a1] rfl (by (try simp only [List.map_toArray, List.map_cons, List.map_nil]); first | done | rfl | (simp only [List.length_drop, List.length_take]; rfl)) ?_; (with_reducible refine (lacquerref03_Crc8.calls k a1 t155 _ A4.out).mono ?_); rintro e w' ⟨rfl, ⟨nd, rfl⟩⟩; refine ⟨_, rfl, ?_⟩))
    go_ret2
    exact ⟨by first | rfl | (simp; done) | (simp [*]; done), by repeat (first | exact Drawn0.refl _ | apply Drawn0.step)⟩
  · rw [if_neg c3] at H
    have c3b0 : (a0 == 8) = false := beq_eq_false_iff_ne.mpr c3
    have c3b1 : (a0 != 8) = true := bne_iff_ne.mpr c3
    by_cases c5 : a0 = 16
    · rw [if_pos c5] at H
      have c5b0 : (a0 == 16) = true := beq_iff_eq.mpr c5
      have c5b1 : (a0 != 16) = false := bne_eq_false_iff_eq.mpr c5
      clear c5
      replace H := Option.bind_eq_some_iff.mp H
      obtain ⟨t156, A60, H⟩ := H
      replace H : (some (t156, true)) = some (r1, r2) := H
      have A6 := Aside0.mk A60
      clear A60
      simp only [Option.some.injEq, Prod.mk.injEq] at H
      obtain ⟨rfl, rfl⟩ := H
      go_enter Try.func18, Try.ntmps18
      go_wp2_with (first | ((with_reducible refine gate_callee (f := 11) rfl ?_); refine goesL_ (some 14) rfl rfl Try.func11 (by kernel_rfl) rfl #[.string a1] rfl (by (try simp only [List.map_toArray, List.map_cons, List.map_nil]); first | done | rfl | (simp only [List.length_drop, List.length_take]; rfl)) ?_; (with_reducible refine (lacquerref03_Crc16.calls k a1 t156 _ A6.out).mono ?_); rintro e w' ⟨rfl, ⟨nd, rfl⟩⟩; refine ⟨_, rfl, ?_⟩))
      go_ret2
      exact ⟨by first | rfl | (simp; done) | (simp [*]; done), by repeat (first | exact Drawn0.refl _ | apply Drawn0.step)⟩
    · rw [if_neg c5] at H
      have c5b0 : (a0 == 16) = false := beq_eq_false_iff_ne.mpr c5
      have c5b1 : (a0 != 16) = true := bne_iff_ne.mpr c5
      by_cases c7 : a0 = 32
      · rw [if_pos c7] at H
        have c7b0 : (a0 == 32) = true := beq_iff_eq.mpr c7
        have c7b1 : (a0 != 32) = false := bne_eq_false_iff_eq.mpr c7
        clear c7
        replace H := Option.bind_eq_some_iff.mp H
        obtain ⟨t157, A80, H⟩ := H
        replace H : (some (t157, true)) = some (r1, r2) := H
        have A8 := Aside0.mk A80
        clear A80
        simp only [Option.some.injEq, Prod.mk.injEq] at H
        obtain ⟨rfl, rfl⟩ := H
        go_enter Try.func18, Try.ntmps18
        go_wp2_with (first | ((with_reducible refine gate_callee (f := 13) rfl ?_); refine goesL_ (some 18) rfl rfl Try.func13 (by kernel_rfl) rfl #[.string a1] rfl (by (try simp only [List.map_toArray, List.map_cons, List.map_nil]); first | done | rfl | (simp only [List.length_drop, List.length_take]; rfl)) ?_; (with_reducible refine (lacquerref03_Ogg.calls k a1 t157 _ A8.out).mono ?_); rintro e w' ⟨rfl, ⟨nd, rfl⟩⟩; refine ⟨_, rfl, ?_⟩))
        go_ret2
        exact ⟨by first | rfl | (simp; done) | (simp [*]; done), by repeat (first | exact Drawn0.refl _ | apply Drawn0.step)⟩
      · rw [if_neg c7] at H
        have c7b0 : (a0 == 32) = false := beq_eq_false_iff_ne.mpr c7
        have c7b1 : (a0 != 32) = true := bne_iff_ne.mpr c7
        by_cases c9 : a0 = 33
        · rw [if_pos c9] at H
          have c9b0 : (a0 == 33) = true := beq_iff_eq.mpr c9
          have c9b1 : (a0 != 33) = false := bne_eq_false_iff_eq.mpr c9
          clear c9
          replace H := Option.bind_eq_some_iff.mp H
          obtain ⟨t158, A100, H⟩ := H
          replace H : (some (t158, true)) = some (r1, r2) := H
          have A10 := Aside0.mk A100
          clear A100
          simp only [Option.some.injEq, Prod.mk.injEq] at H
          obtain ⟨rfl, rfl⟩ := H
          go_enter Try.func18, Try.ntmps18
          go_wp2_with (first | ((with_reducible refine gate_callee (f := 15) rfl ?_); refine goesL_ (some 22) rfl rfl Try.func15 (by kernel_rfl) rfl #[.string a1] rfl (by (try simp only [List.map_toArray, List.map_cons, List.map_nil]); first | done | rfl | (simp only [List.length_drop, List.length_take]; rfl)) ?_; (with_reducible refine (lacquerref03_Crc32.calls k a1 t158 _ A10.out).mono ?_); rintro e w' ⟨rfl, ⟨nd, rfl⟩⟩; refine ⟨_, rfl, ?_⟩))
          go_ret2
          exact ⟨by first | rfl | (simp; done) | (simp [*]; done), by repeat (first | exact Drawn0.refl _ | apply Drawn0.step)⟩
        · rw [if_neg c9] at H
          have c9b0 : (a0 == 33) = false := beq_eq_false_iff_ne.mpr c9
          have c9b1 : (a0 != 33) = true := bne_iff_ne.mpr c9
          simp only [Option.some.injEq, Prod.mk.injEq] at H
          obtain ⟨rfl, rfl⟩ := H
          go_enter Try.func18, Try.ntmps18
          go_wp2
          go_ret2
          exact ⟨by first | rfl | (simp; done) | (simp [*]; done), by repeat (first | exact Drawn0.refl _ | apply Drawn0.step)⟩

-- NOT PRINTED: function 4 (lacquerlaw03_SumsPieces)

end Go.Proofs.Ytmpkomhcihgphaa.Q
