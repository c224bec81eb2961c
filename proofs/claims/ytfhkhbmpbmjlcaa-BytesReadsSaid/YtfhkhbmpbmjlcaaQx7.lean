/- Printed by a program of ours (pp.sh), partly over contracts proved by hand. -/
import Derived.Test.YtfhkhbmpbmjlcaaQx0
import Derived.Test.YtfhkhbmpbmjlcaaQx1
import Derived.Test.YtfhkhbmpbmjlcaaQx2
import Derived.Test.YtfhkhbmpbmjlcaaQx3
namespace Go.Proofs.Ytfhkhbmpbmjlcaa.Q
open Go.RowKit Go.Proofs.YtfhkhbmpbmjlcaaW.PrintWords Go.Proofs.YtfhkhbmpbmjlcaaW.PrintLast Go.Proofs.YtfhkhbmpbmjlcaaW.PrintMore
attribute [local go_sem high] Go.Proofs.Ytfhkhbmpbmjlcaa.Hand.xor_u8
attribute [local go_sem] max2_int min2_int max_two min_two max_three min_three max_four min_four   -- for this text's walks alone
set_option linter.unusedVariables false
set_option linter.unusedSimpArgs false

/-! ### lacquerlaw02_BytesOrder: function 5 -/
def lacquerlaw02_BytesOrder.j0 : Nat → Int → Int → Bool → Option (Bool)
  | 0, _, _, _ => none
  | k + 1, x0, x1, x43 => if x43 = true then (some false) else ((bytes_Coded.f k x0).bind fun bt227 => ((bytes_Coded.f k x1).bind fun bt229 => (if bt227.2 = 0 then (if bt229.2 = 0 then (if x0 = x1 then ((lacquerlaw02_awake.f k).bind fun t231 => (some t231)) else (if (bt229.1.size : Int) < (bt227.1.size : Int) then ((lacquerlaw02_awake.f k).bind fun t232 => (some t232)) else (if 0 ≤ (bt227.1.size : Int) then (if (bt227.1.size : Int) ≤ (bt229.1.size : Int) then (if (bt229.1.extract 0 bt227.1.size).toList = bt227.1.toList then (some false) else ((lacquerlaw02_awake.f k).bind fun t233 => (some t233))) else (none)) else (none)))) else (some false)) else (some false))))
def lacquerlaw02_BytesOrder.f (k : Nat) (a0 : Int) (a1 : Int) : Option (Bool) := (bytes_Be.f k (mx 0 (mn a0 68719476735)) 5).bind fun bt223 => ((bytes_Be.f k (mx 0 (mn a1 68719476735)) 5).bind fun bt225 => (if bt223.2 = 0 then (if bt225.2 = 0 then (lacquerlaw02_BytesOrder.j0 k (mx 0 (mn a0 68719476735)) (mx 0 (mn a1 68719476735)) ((Op.bytesLess bt223.1.toList bt225.1.toList) != (decide ((mx 0 (mn a0 68719476735)) < (mx 0 (mn a1 68719476735)))))) else (lacquerlaw02_BytesOrder.j0 k (mx 0 (mn a0 68719476735)) (mx 0 (mn a1 68719476735)) true)) else (lacquerlaw02_BytesOrder.j0 k (mx 0 (mn a0 68719476735)) (mx 0 (mn a1 68719476735)) true)))
theorem lacquerlaw02_BytesOrder.mono_l : ∀ k, (∀ y0 y1 y2, LeO (lacquerlaw02_BytesOrder.j0 k y0 y1 y2) (lacquerlaw02_BytesOrder.j0 (k + 1) y0 y1 y2))
  | 0 => fun _ _ _ r h => by simp [lacquerlaw02_BytesOrder.j0] at h
  | k + 1 => by
    have ih0 := lacquerlaw02_BytesOrder.mono_l k
    · intro y0 y1 y2
      unfold lacquerlaw02_BytesOrder.j0
      repeat' first
      | (with_reducible exact ih0 _ _ _)
      | (with_reducible exact bytes_Be.mono _ _ _)
      | (with_reducible exact bytes_Coded.mono _ _)
      | (with_reducible exact lacquerlaw02_awake.mono _)
      | (with_reducible exact LeO.refl _)
      | (with_reducible exact LeO.none _)
      | (with_reducible refine LeO.ite ?_ ?_)
      | (with_reducible refine LeO.bind ?_ (fun _ => ?_))
      | exact ih0 _ _ _
      | exact bytes_Be.mono _ _ _
      | exact bytes_Coded.mono _ _
      | exact lacquerlaw02_awake.mono _
      | exact LeO.none _
      | refine LeO.ite ?_ ?_
      | refine LeO.bind ?_ (fun _ => ?_)
theorem lacquerlaw02_BytesOrder.mono : ∀ a0 a1 k, LeO (lacquerlaw02_BytesOrder.f k a0 a1) (lacquerlaw02_BytesOrder.f (k + 1) a0 a1) := by
  intro a0 a1 k
  have ih0 := lacquerlaw02_BytesOrder.mono_l k
  unfold lacquerlaw02_BytesOrder.f
  repeat' first
      | (with_reducible exact ih0 _ _ _)
      | (with_reducible exact bytes_Be.mono _ _ _)
      | (with_reducible exact bytes_Coded.mono _ _)
      | (with_reducible exact lacquerlaw02_awake.mono _)
      | (with_reducible exact LeO.refl _)
      | (with_reducible exact LeO.none _)
      | (with_reducible refine LeO.ite ?_ ?_)
      | (with_reducible refine LeO.bind ?_ (fun _ => ?_))
      | exact ih0 _ _ _
      | exact bytes_Be.mono _ _ _
      | exact bytes_Coded.mono _ _
      | exact lacquerlaw02_awake.mono _
      | exact LeO.none _
      | refine LeO.ite ?_ ?_
      | refine LeO.bind ?_ (fun _ => ?_)
set_option maxHeartbeats 8000000 in
set_option maxRecDepth 100000 in
theorem lacquerlaw02_BytesOrder.calls (k : Nat) (a0 : Int) (a1 : Int) (r : Bool) (w : World) (h : lacquerlaw02_BytesOrder.f k a0 a1 = some r) :
    Calls Try.prog 5 #[.int .i64 a0, .int .i64 a1] w fun e w' => e = .returned (.bool r) ∧ Below w.heap.size w w' := by
  have HB := Aside0.mk (Below.refl w.heap.size w)
  have H : ((bytes_Be.f k (mx 0 (mn a0 68719476735)) 5).bind fun bt223 => ((bytes_Be.f k (mx 0 (mn a1 68719476735)) 5).bind fun bt225 => (if bt223.2 = 0 then (if bt225.2 = 0 then (lacquerlaw02_BytesOrder.j0 k (mx 0 (mn a0 68719476735)) (mx 0 (mn a1 68719476735)) ((Op.bytesLess bt223.1.toList bt225.1.toList) != (decide ((mx 0 (mn a0 68719476735)) < (mx 0 (mn a1 68719476735)))))) else (lacquerlaw02_BytesOrder.j0 k (mx 0 (mn a0 68719476735)) (mx 0 (mn a1 68719476735)) true)) else (lacquerlaw02_BytesOrder.j0 k (mx 0 (mn a0 68719476735)) (mx 0 (mn a1 68719476735)) true)))) = some r := h
  clear h
  obtain ⟨ji3, hji3⟩ : ∃ j_ : Int, (mn a0 68719476735) = j_ := ⟨_, rfl⟩
  replace H : ((bytes_Be.f k (mx 0 (ji3)) 5).bind fun bt223 => ((bytes_Be.f k (mx 0 (mn a1 68719476735)) 5).bind fun bt225 => (if bt223.2 = 0 then (if bt225.2 = 0 then (lacquerlaw02_BytesOrder.j0 k (mx 0 (ji3)) (mx 0 (mn a1 68719476735)) ((Op.bytesLess bt223.1.toList bt225.1.toList) != (decide ((mx 0 (ji3)) < (mx 0 (mn a1 68719476735)))))) else (lacquerlaw02_BytesOrder.j0 k (mx 0 (ji3)) (mx 0 (mn a1 68719476735)) true)) else (lacquerlaw02_BytesOrder.j0 k (mx 0 (ji3)) (mx 0 (mn a1 68719476735)) true)))) = some r := by first | (rw [hji3] at H; exact H) | (simp only [hji3] at H ⊢; exact H)
  (try (have hji3h : ji3 ≤ 68719476735 := by (rw [← hji3]; unfold mn; (repeat' split) <;> omega)))
  (try (have hji3g : ji3 ≤ 64 := by omega))
  have hji3_ : (if 68719476735 < a0 then 68719476735 else a0) = ji3 := hji3
  obtain ⟨ji4, hji4⟩ : ∃ j_ : Int, (mx 0 (ji3)) = j_ := ⟨_, rfl⟩
  replace H : ((bytes_Be.f k (ji4) 5).bind fun bt223 => ((bytes_Be.f k (mx 0 (mn a1 68719476735)) 5).bind fun bt225 => (if bt223.2 = 0 then (if bt225.2 = 0 then (lacquerlaw02_BytesOrder.j0 k ji4 (mx 0 (mn a1 68719476735)) ((Op.bytesLess bt223.1.toList bt225.1.toList) != (decide ((ji4) < (mx 0 (mn a1 68719476735)))))) else (lacquerlaw02_BytesOrder.j0 k ji4 (mx 0 (mn a1 68719476735)) true)) else (lacquerlaw02_BytesOrder.j0 k ji4 (mx 0 (mn a1 68719476735)) true)))) = some r := by first | (rw [hji4] at H; exact H) | (simp only [hji4] at H ⊢; exact H)
  have hji4_ : (if 0 < (ji3) then (ji3) else 0) = ji4 := hji4
  obtain ⟨ji5, hji5⟩ : ∃ j_ : Int, (mn a1 68719476735) = j_ := ⟨_, rfl⟩
  replace H : ((bytes_Be.f k (ji4) 5).bind fun bt223 => ((bytes_Be.f k (mx 0 (ji5)) 5).bind fun bt225 => (if bt223.2 = 0 then (if bt225.2 = 0 then (lacquerlaw02_BytesOrder.j0 k ji4 (mx 0 (ji5)) ((Op.bytesLess bt223.1.toList bt225.1.toList) != (decide ((ji4) < (mx 0 (ji5)))))) else (lacquerlaw02_BytesOrder.j0 k ji4 (mx 0 (ji5)) true)) else (lacquerlaw02_BytesOrder.j0 k ji4 (mx 0 (ji5)) true)))) = some r := by first | (rw [hji5] at H; exact H) | (simp only [hji5] at H ⊢; exact H)
  (try (have hji5h : ji5 ≤ 68719476735 := by (rw [← hji5]; unfold mn; (repeat' split) <;> omega)))
  (try (have hji5g : ji5 ≤ 64 := by omega))
  have hji5_ : (if 68719476735 < a1 then 68719476735 else a1) = ji5 := hji5
  obtain ⟨ji6, hji6⟩ : ∃ j_ : Int, (mx 0 (ji5)) = j_ := ⟨_, rfl⟩
  replace H : ((bytes_Be.f k (ji4) 5).bind fun bt223 => ((bytes_Be.f k (ji6) 5).bind fun bt225 => (if bt223.2 = 0 then (if bt225.2 = 0 then (lacquerlaw02_BytesOrder.j0 k ji4 ji6 ((Op.bytesLess bt223.1.toList bt225.1.toList) != (decide ((ji4) < (ji6))))) else (lacquerlaw02_BytesOrder.j0 k ji4 ji6 true)) else (lacquerlaw02_BytesOrder.j0 k ji4 ji6 true)))) = some r := by first | (rw [hji6] at H; exact H) | (simp only [hji6] at H ⊢; exact H)
  have hji6_ : (if 0 < (ji5) then (ji5) else 0) = ji6 := hji6
  replace H := Option.bind_eq_some_iff.mp H
  obtain ⟨⟨t223, t224⟩, A70, H⟩ := H
  replace H : ((bytes_Be.f k (ji6) 5).bind fun bt225 => (if t224 = 0 then (if bt225.2 = 0 then (lacquerlaw02_BytesOrder.j0 k ji4 ji6 ((Op.bytesLess t223.toList bt225.1.toList) != (decide ((ji4) < (ji6))))) else (lacquerlaw02_BytesOrder.j0 k ji4 ji6 true)) else (lacquerlaw02_BytesOrder.j0 k ji4 ji6 true))) = some r := H
  have A7 := Aside0.mk A70
  clear A70
  replace H := Option.bind_eq_some_iff.mp H
  obtain ⟨⟨t225, t226⟩, A80, H⟩ := H
  replace H : (if t224 = 0 then (if t226 = 0 then (lacquerlaw02_BytesOrder.j0 k ji4 ji6 ((Op.bytesLess t223.toList t225.toList) != (decide ((ji4) < (ji6))))) else (lacquerlaw02_BytesOrder.j0 k ji4 ji6 true)) else (lacquerlaw02_BytesOrder.j0 k ji4 ji6 true)) = some r := H
  have A8 := Aside0.mk A80
  clear A80
  have HC9 := Aside0.mk H
  clear H
  go_enter Try.func5, Try.ntmps5
  go_upto_region 4 with (first | ((with_reducible refine gate_callee (f := 10) rfl ?_); refine goesL_ (some 21) rfl rfl Try.func10 (by kernel_rfl) rfl #[.int .i64 ji4, .int .i64 5] rfl (by (try simp only [List.map_toArray, List.map_cons, List.map_nil]); first | done | (simp only [hji4]; rfl) | rfl | (simp only [List.length_drop, List.length_take]; rfl)) ?_; (with_reducible refine (bytes_Be.calls k ji4 5 t223 t224 _ A7.out).mono ?_); rintro e w10 ⟨rfl, hb⟩; refine ⟨_, rfl, ?_⟩; have n0_ := Aside0.mk (below_step (by repeat (first | (with_reducible first | exact HB.out | apply below_alloc | apply pw_below_drewN | apply below_drew1) | exact HB.out)) hb); clear HB; have HB := n0_; clear n0_; (try clear hb); (try clear hb2); (try clear hk); (try clear hi)) | ((with_reducible refine gate_callee (f := 10) rfl ?_); refine goesL_ (some 26) rfl rfl Try.func10 (by kernel_rfl) rfl #[.int .i64 ji6, .int .i64 5] rfl (by (try simp only [List.map_toArray, List.map_cons, List.map_nil]); first | done | (simp only [hji6]; rfl) | rfl | (simp only [List.length_drop, List.length_take]; rfl)) ?_; (with_reducible refine (bytes_Be.calls k ji6 5 t225 t226 _ A8.out).mono ?_); rintro e w11 ⟨rfl, hb⟩; refine ⟨_, rfl, ?_⟩; have n0_ := Aside0.mk (below_step (by repeat (first | (with_reducible first | exact HB.out | apply below_alloc | apply pw_below_drewN | apply below_drew1) | exact HB.out)) hb); clear HB; have HB := n0_; clear n0_; (try clear hb); (try clear hb2); (try clear hk); (try clear hi)))
  (try simp only [Act.put, List.setIfInBounds_toArray, List.set_cons_zero, List.set_cons_succ])
  go_cut [43] (fun v43 wc => ∃ (kq : Nat) (x43_8 : Bool), v43 = .bool x43_8 ∧ Aside0 (lacquerlaw02_BytesOrder.j0 kq ji4 ji6 x43_8 = some r) ∧ Aside0 (kq ≤ k) ∧ Aside0 (Below w.heap.size w wc))
  case first =>
    have H := HC9.out
    clear HC9
    by_cases c12 : t224 = 0
    · rw [if_pos c12] at H
      have c12b0 : (t224 == 0) = true := beq_iff_eq.mpr c12
      have c12b1 : (t224 != 0) = false := bne_eq_false_iff_eq.mpr c12
      clear c12
      (first | rw [c12b0] | (simp only [i64_w, i32_w]; rw [c12b0]) | skip)
      by_cases c13 : t226 = 0
      · rw [if_pos c13] at H
        have c13b0 : (t226 == 0) = true := beq_iff_eq.mpr c13
        have c13b1 : (t226 != 0) = false := bne_eq_false_iff_eq.mpr c13
        clear c13
        have H' := Aside0.mk H
        clear H
        go_wp2
        go_meet
        case rel => exact ⟨_, (((Op.bytesLess t223.toList t225.toList) != (decide ((ji4) < (ji6))))), (by first | rfl | (simp; done) | (simp only [← hji4, ← hji6] <;> (first | rfl | simp)) | (simp [*]; done)), H', ⟨by first | omega | exact Nat.le_refl _⟩, ⟨by repeat (first | (with_reducible first | exact HB.out | apply below_alloc | apply pw_below_drewN | apply below_drew1) | exact HB.out)⟩⟩
      · rw [if_neg c13] at H
        have c13b0 : (t226 == 0) = false := beq_eq_false_iff_ne.mpr c13
        have c13b1 : (t226 != 0) = true := bne_iff_ne.mpr c13
        have H' := Aside0.mk H
        clear H
        go_wp2
        go_meet
        case rel => exact ⟨_, (true), (by first | rfl | (simp; done) | (simp [*]; done)), H', ⟨by first | omega | exact Nat.le_refl _⟩, ⟨by repeat (first | (with_reducible first | exact HB.out | apply below_alloc | apply pw_below_drewN | apply below_drew1) | exact HB.out)⟩⟩
    · rw [if_neg c12] at H
      have c12b0 : (t224 == 0) = false := beq_eq_false_iff_ne.mpr c12
      have c12b1 : (t224 != 0) = true := bne_iff_ne.mpr c12
      (first | rw [c12b0] | (simp only [i64_w, i32_w]; rw [c12b0]) | skip)
      have H' := Aside0.mk H
      clear H
      go_wp2
      go_meet
      case rel => exact ⟨_, (true), (by first | rfl | (simp; done) | (simp [*]; done)), H', ⟨by first | omega | exact Nat.le_refl _⟩, ⟨by repeat (first | (with_reducible first | exact HB.out | apply below_alloc | apply pw_below_drewN | apply below_drew1) | exact HB.out)⟩⟩
  case rest =>
    clear HC9
    try clear c1
    try clear p2
    try clear c5
    try clear c10
    try clear c12
    try clear c12b0
    try clear c12b1
    try clear c13
    try clear c13b0
    try clear c13b1
    obtain ⟨kq, x43_8, rfl, HA, HJ8, HB⟩ := hcut
    cases kq with
    | zero => exact absurd HA.out (by simp [lacquerlaw02_BytesOrder.j0])
    | succ kj8 =>
      have H := HA.out
      clear HA
      simp only [lacquerlaw02_BytesOrder.j0] at H
      by_cases c14 : x43_8 = true
      · subst c14
        have H1 : (some false) = some r := by rw [if_pos rfl] at H; exact H
        clear H
        have H := H1
        clear H1
        obtain rfl := Option.some.inj H
        go_wp2
        go_ret
        exact ⟨by first | rfl | (simp [errW_none, errW_some] <;> rfl) | (simp only [← hji3, ← hji4, ← hji5, ← hji6]; first | rfl | (simp [errW_none, errW_some] <;> rfl)) | (simp [*, errW_none, errW_some] <;> rfl), by repeat (first | (with_reducible first | exact HB.out | apply below_alloc | apply pw_below_drewN | apply below_drew1) | exact HB.out)⟩
      · replace c14 := Bool.eq_false_iff.mpr c14
        subst c14
        have H1 : ((bytes_Coded.f kj8 ji4).bind fun bt227 => ((bytes_Coded.f kj8 ji6).bind fun bt229 => (if bt227.2 = 0 then (if bt229.2 = 0 then (if ji4 = ji6 then ((lacquerlaw02_awake.f kj8).bind fun t231 => (some t231)) else (if (bt229.1.size : Int) < (bt227.1.size : Int) then ((lacquerlaw02_awake.f kj8).bind fun t232 => (some t232)) else (if 0 ≤ (bt227.1.size : Int) then (if (bt227.1.size : Int) ≤ (bt229.1.size : Int) then (if (bt229.1.extract 0 bt227.1.size).toList = bt227.1.toList then (some false) else ((lacquerlaw02_awake.f kj8).bind fun t233 => (some t233))) else (none)) else (none)))) else (some false)) else (some false)))) = some r := by rw [if_neg (show ¬ (false = true) by decide)] at H; exact H
        clear H
        have H := H1
        clear H1
        replace H := Option.bind_eq_some_iff.mp H
        obtain ⟨⟨t227, t228⟩, A150, H⟩ := H
        replace H : ((bytes_Coded.f kj8 ji6).bind fun bt229 => (if t228 = 0 then (if bt229.2 = 0 then (if ji4 = ji6 then ((lacquerlaw02_awake.f kj8).bind fun t231 => (some t231)) else (if (bt229.1.size : Int) < (t227.size : Int) then ((lacquerlaw02_awake.f kj8).bind fun t232 => (some t232)) else (if 0 ≤ (t227.size : Int) then (if (t227.size : Int) ≤ (bt229.1.size : Int) then (if (bt229.1.extract 0 t227.size).toList = t227.toList then (some false) else ((lacquerlaw02_awake.f kj8).bind fun t233 => (some t233))) else (none)) else (none)))) else (some false)) else (some false))) = some r := H
        have A15 := Aside0.mk A150
        clear A150
        replace H := Option.bind_eq_some_iff.mp H
        obtain ⟨⟨t229, t230⟩, A160, H⟩ := H
        replace H : (if t228 = 0 then (if t230 = 0 then (if ji4 = ji6 then ((lacquerlaw02_awake.f kj8).bind fun t231 => (some t231)) else (if (t229.size : Int) < (t227.size : Int) then ((lacquerlaw02_awake.f kj8).bind fun t232 => (some t232)) else (if 0 ≤ (t227.size : Int) then (if (t227.size : Int) ≤ (t229.size : Int) then (if (t229.extract 0 t227.size).toList = t227.toList then (some false) else ((lacquerlaw02_awake.f kj8).bind fun t233 => (some t233))) else (none)) else (none)))) else (some false)) else (some false)) = some r := H
        have A16 := Aside0.mk A160
        clear A160
        by_cases c17 : t228 = 0
        · rw [if_pos c17] at H
          have c17b0 : (t228 == 0) = true := beq_iff_eq.mpr c17
          have c17b1 : (t228 != 0) = false := bne_eq_false_iff_eq.mpr c17
          clear c17
          by_cases c18 : t230 = 0
          · rw [if_pos c18] at H
            have c18b0 : (t230 == 0) = true := beq_iff_eq.mpr c18
            have c18b1 : (t230 != 0) = false := bne_eq_false_iff_eq.mpr c18
            clear c18
            by_cases c19 : ji4 = ji6
            · rw [if_pos c19] at H
              have c19b0 : (ji4 == ji6) = true := beq_iff_eq.mpr c19
              have c19b1 : (ji4 != ji6) = false := bne_eq_false_iff_eq.mpr c19
              clear c19
              replace H := Option.bind_eq_some_iff.mp H
              obtain ⟨t231, A200, H⟩ := H
              replace H : (some t231) = some r := H
              have A20 := Aside0.mk A200
              clear A200
              obtain rfl := Option.some.inj H
              go_wp2_with (first | ((with_reducible refine gate_callee (f := 13) rfl ?_); refine goesL_ (some 46) rfl rfl Try.func13 (by kernel_rfl) rfl #[.int .i64 ji4] rfl (by (try simp only [List.map_toArray, List.map_cons, List.map_nil]); first | done | (simp only [hji4]; rfl) | rfl | (simp only [List.length_drop, List.length_take]; rfl)) ?_; (with_reducible refine (bytes_Coded.calls kj8 ji4 t227 t228 _ A15.out).mono ?_); rintro e w21 ⟨rfl, hb⟩; refine ⟨_, rfl, ?_⟩; have n0_ := Aside0.mk (below_step (by repeat (first | (with_reducible first | exact HB.out | apply below_alloc | apply pw_below_drewN | apply below_drew1) | exact HB.out)) hb); clear HB; have HB := n0_; clear n0_; (try clear hb); (try clear hb2); (try clear hk); (try clear hi)) | ((with_reducible refine gate_callee (f := 13) rfl ?_); refine goesL_ (some 51) rfl rfl Try.func13 (by kernel_rfl) rfl #[.int .i64 ji6] rfl (by (try simp only [List.map_toArray, List.map_cons, List.map_nil]); first | done | (simp only [hji6]; rfl) | rfl | (simp only [List.length_drop, List.length_take]; rfl)) ?_; (with_reducible refine (bytes_Coded.calls kj8 ji6 t229 t230 _ A16.out).mono ?_); rintro e w22 ⟨rfl, hb⟩; refine ⟨_, rfl, ?_⟩; have n0_ := Aside0.mk (below_step (by repeat (first | (with_reducible first | exact HB.out | apply below_alloc | apply pw_below_drewN | apply below_drew1) | exact HB.out)) hb); clear HB; have HB := n0_; clear n0_; (try clear hb); (try clear hb2); (try clear hk); (try clear hi)) | (go_at_call 12; (with_reducible refine (lacquerlaw02_awake.calls kj8  t231 _ A20.out).mono ?_); rintro e w23 ⟨rfl, hb⟩; have n0_ := Aside0.mk (below_step (by repeat (first | (with_reducible first | exact HB.out | apply below_alloc | apply pw_below_drewN | apply below_drew1) | exact HB.out)) hb); clear HB; have HB := n0_; clear n0_; (try clear hb); (try clear hb2); (try clear hk); (try clear hi)))
              go_ret
              exact ⟨by first | rfl | (simp [errW_none, errW_some] <;> rfl) | (simp only [← hji3, ← hji4, ← hji5, ← hji6]; first | rfl | (simp [errW_none, errW_some] <;> rfl)) | (simp [*, errW_none, errW_some] <;> rfl), by repeat (first | (with_reducible first | exact HB.out | apply below_alloc | apply pw_below_drewN | apply below_drew1) | exact HB.out)⟩
            · rw [if_neg c19] at H
              have c19b0 : (ji4 == ji6) = false := beq_eq_false_iff_ne.mpr c19
              have c19b1 : (ji4 != ji6) = true := bne_iff_ne.mpr c19
              by_cases c24 : (t229.size : Int) < (t227.size : Int)
              · rw [if_pos c24] at H
                have c24b0 : decide ((t229.size : Int) < (t227.size : Int)) = true := decide_eq_true c24
                have c24b1 : decide (t229.size < t227.size) = true := decide_eq_true (Int.ofNat_lt.mp c24)
                clear c24
                replace H := Option.bind_eq_some_iff.mp H
                obtain ⟨t232, A250, H⟩ := H
                replace H : (some t232) = some r := H
                have A25 := Aside0.mk A250
                clear A250
                obtain rfl := Option.some.inj H
                go_wp2_with (first | ((with_reducible refine gate_callee (f := 13) rfl ?_); refine goesL_ (some 46) rfl rfl Try.func13 (by kernel_rfl) rfl #[.int .i64 ji4] rfl (by (try simp only [List.map_toArray, List.map_cons, List.map_nil]); first | done | (simp only [hji4]; rfl) | rfl | (simp only [List.length_drop, List.length_take]; rfl)) ?_; (with_reducible refine (bytes_Coded.calls kj8 ji4 t227 t228 _ A15.out).mono ?_); rintro e w26 ⟨rfl, hb⟩; refine ⟨_, rfl, ?_⟩; have n0_ := Aside0.mk (below_step (by repeat (first | (with_reducible first | exact HB.out | apply below_alloc | apply pw_below_drewN | apply below_drew1) | exact HB.out)) hb); clear HB; have HB := n0_; clear n0_; (try clear hb); (try clear hb2); (try clear hk); (try clear hi)) | ((with_reducible refine gate_callee (f := 13) rfl ?_); refine goesL_ (some 51) rfl rfl Try.func13 (by kernel_rfl) rfl #[.int .i64 ji6] rfl (by (try simp only [List.map_toArray, List.map_cons, List.map_nil]); first | done | (simp only [hji6]; rfl) | rfl | (simp only [List.length_drop, List.length_take]; rfl)) ?_; (with_reducible refine (bytes_Coded.calls kj8 ji6 t229 t230 _ A16.out).mono ?_); rintro e w27 ⟨rfl, hb⟩; refine ⟨_, rfl, ?_⟩; have n0_ := Aside0.mk (below_step (by repeat (first | (with_reducible first | exact HB.out | apply below_alloc | apply pw_below_drewN | apply below_drew1) | exact HB.out)) hb); clear HB; have HB := n0_; clear n0_; (try clear hb); (try clear hb2); (try clear hk); (try clear hi)) | (go_at_call 12; (with_reducible refine (lacquerlaw02_awake.calls kj8  t232 _ A25.out).mono ?_); rintro e w28 ⟨rfl, hb⟩; have n0_ := Aside0.mk (below_step (by repeat (first | (with_reducible first | exact HB.out | apply below_alloc | apply pw_below_drewN | apply below_drew1) | exact HB.out)) hb); clear HB; have HB := n0_; clear n0_; (try clear hb); (try clear hb2); (try clear hk); (try clear hi)))
                go_ret
                exact ⟨by first | rfl | (simp [errW_none, errW_some] <;> rfl) | (simp only [← hji3, ← hji4, ← hji5, ← hji6]; first | rfl | (simp [errW_none, errW_some] <;> rfl)) | (simp [*, errW_none, errW_some] <;> rfl), by repeat (first | (with_reducible first | exact HB.out | apply below_alloc | apply pw_below_drewN | apply below_drew1) | exact HB.out)⟩
              · rw [if_neg c24] at H
                have c24b0 : decide ((t229.size : Int) < (t227.size : Int)) = false := decide_eq_false c24
                have c24b1 : decide (t229.size < t227.size) = false := decide_eq_false (fun h => c24 (Int.ofNat_lt.mpr h))
                clear c24
                by_cases c29 : 0 ≤ (t227.size : Int)
                · rw [if_pos c29] at H
                  have c29b0 := eq_true c29
                  have c29b1 : decide (0 ≤ (t227.size : Int)) = true := decide_eq_true c29
                  clear c29
                  by_cases c30 : (t227.size : Int) ≤ (t229.size : Int)
                  · rw [if_pos c30] at H
                    have c30b0 := eq_true c30
                    have c30b1 : decide ((t227.size : Int) ≤ (t229.size : Int)) = true := decide_eq_true c30
                    clear c30
                    by_cases c31 : (t229.extract 0 t227.size).toList = t227.toList
                    · rw [if_pos c31] at H
                      have c31b0 : ((t229.extract 0 t227.size).toList == t227.toList) = true := beq_iff_eq.mpr c31
                      have c31b1 : ((t229.extract 0 t227.size).toList != t227.toList) = false := bne_eq_false_iff_eq.mpr c31
                      clear c31
                      obtain rfl := Option.some.inj H
                      go_wp2_with (first | ((with_reducible refine gate_callee (f := 13) rfl ?_); refine goesL_ (some 46) rfl rfl Try.func13 (by kernel_rfl) rfl #[.int .i64 ji4] rfl (by (try simp only [List.map_toArray, List.map_cons, List.map_nil]); first | done | (simp only [hji4]; rfl) | rfl | (simp only [List.length_drop, List.length_take]; rfl)) ?_; (with_reducible refine (bytes_Coded.calls kj8 ji4 t227 t228 _ A15.out).mono ?_); rintro e w32 ⟨rfl, hb⟩; refine ⟨_, rfl, ?_⟩; have n0_ := Aside0.mk (below_step (by repeat (first | (with_reducible first | exact HB.out | apply below_alloc | apply pw_below_drewN | apply below_drew1) | exact HB.out)) hb); clear HB; have HB := n0_; clear n0_; (try clear hb); (try clear hb2); (try clear hk); (try clear hi)) | ((with_reducible refine gate_callee (f := 13) rfl ?_); refine goesL_ (some 51) rfl rfl Try.func13 (by kernel_rfl) rfl #[.int .i64 ji6] rfl (by (try simp only [List.map_toArray, List.map_cons, List.map_nil]); first | done | (simp only [hji6]; rfl) | rfl | (simp only [List.length_drop, List.length_take]; rfl)) ?_; (with_reducible refine (bytes_Coded.calls kj8 ji6 t229 t230 _ A16.out).mono ?_); rintro e w33 ⟨rfl, hb⟩; refine ⟨_, rfl, ?_⟩; have n0_ := Aside0.mk (below_step (by repeat (first | (with_reducible first | exact HB.out | apply below_alloc | apply pw_below_drewN | apply below_drew1) | exact HB.out)) hb); clear HB; have HB := n0_; clear n0_; (try clear hb); (try clear hb2); (try clear hk); (try clear hi)))
                      go_ret
                      exact ⟨by first | rfl | (simp [errW_none, errW_some] <;> rfl) | (simp only [← hji3, ← hji4, ← hji5, ← hji6]; first | rfl | (simp [errW_none, errW_some] <;> rfl)) | (simp [*, errW_none, errW_some] <;> rfl), by repeat (first | (with_reducible first | exact HB.out | apply below_alloc | apply pw_below_drewN | apply below_drew1) | exact HB.out)⟩
                    · rw [if_neg c31] at H
                      have c31b0 : ((t229.extract 0 t227.size).toList == t227.toList) = false := beq_eq_false_iff_ne.mpr c31
                      have c31b1 : ((t229.extract 0 t227.size).toList != t227.toList) = true := bne_iff_ne.mpr c31
                      replace H := Option.bind_eq_some_iff.mp H
                      obtain ⟨t233, A340, H⟩ := H
                      replace H : (some t233) = some r := H
                      have A34 := Aside0.mk A340
                      clear A340
                      obtain rfl := Option.some.inj H
                      go_wp2_with (first | ((with_reducible refine gate_callee (f := 13) rfl ?_); refine goesL_ (some 46) rfl rfl Try.func13 (by kernel_rfl) rfl #[.int .i64 ji4] rfl (by (try simp only [List.map_toArray, List.map_cons, List.map_nil]); first | done | (simp only [hji4]; rfl) | rfl | (simp only [List.length_drop, List.length_take]; rfl)) ?_; (with_reducible refine (bytes_Coded.calls kj8 ji4 t227 t228 _ A15.out).mono ?_); rintro e w35 ⟨rfl, hb⟩; refine ⟨_, rfl, ?_⟩; have n0_ := Aside0.mk (below_step (by repeat (first | (with_reducible first | exact HB.out | apply below_alloc | apply pw_below_drewN | apply below_drew1) | exact HB.out)) hb); clear HB; have HB := n0_; clear n0_; (try clear hb); (try clear hb2); (try clear hk); (try clear hi)) | ((with_reducible refine gate_callee (f := 13) rfl ?_); refine goesL_ (some 51) rfl rfl Try.func13 (by kernel_rfl) rfl #[.int .i64 ji6] rfl (by (try simp only [List.map_toArray, List.map_cons, List.map_nil]); first | done | (simp only [hji6]; rfl) | rfl | (simp only [List.length_drop, List.length_take]; rfl)) ?_; (with_reducible refine (bytes_Coded.calls kj8 ji6 t229 t230 _ A16.out).mono ?_); rintro e w36 ⟨rfl, hb⟩; refine ⟨_, rfl, ?_⟩; have n0_ := Aside0.mk (below_step (by repeat (first | (with_reducible first | exact HB.out | apply below_alloc | apply pw_below_drewN | apply below_drew1) | exact HB.out)) hb); clear HB; have HB := n0_; clear n0_; (try clear hb); (try clear hb2); (try clear hk); (try clear hi)) | (go_at_call 12; (with_reducible refine (lacquerlaw02_awake.calls kj8  t233 _ A34.out).mono ?_); rintro e w37 ⟨rfl, hb⟩; have n0_ := Aside0.mk (below_step (by repeat (first | (with_reducible first | exact HB.out | apply below_alloc | apply pw_below_drewN | apply below_drew1) | exact HB.out)) hb); clear HB; have HB := n0_; clear n0_; (try clear hb); (try clear hb2); (try clear hk); (try clear hi)))
                      go_ret
                      exact ⟨by first | rfl | (simp [errW_none, errW_some] <;> rfl) | (simp only [← hji3, ← hji4, ← hji5, ← hji6]; first | rfl | (simp [errW_none, errW_some] <;> rfl)) | (simp [*, errW_none, errW_some] <;> rfl), by repeat (first | (with_reducible first | exact HB.out | apply below_alloc | apply pw_below_drewN | apply below_drew1) | exact HB.out)⟩
                  · rw [if_neg c30] at H
                    exact absurd H (by simp)
                · rw [if_neg c29] at H
                  exact absurd H (by simp)
          · rw [if_neg c18] at H
            have c18b0 : (t230 == 0) = false := beq_eq_false_iff_ne.mpr c18
            have c18b1 : (t230 != 0) = true := bne_iff_ne.mpr c18
            obtain rfl := Option.some.inj H
            go_wp2_with (first | ((with_reducible refine gate_callee (f := 13) rfl ?_); refine goesL_ (some 46) rfl rfl Try.func13 (by kernel_rfl) rfl #[.int .i64 ji4] rfl (by (try simp only [List.map_toArray, List.map_cons, List.map_nil]); first | done | (simp only [hji4]; rfl) | rfl | (simp only [List.length_drop, List.length_take]; rfl)) ?_; (with_reducible refine (bytes_Coded.calls kj8 ji4 t227 t228 _ A15.out).mono ?_); rintro e w38 ⟨rfl, hb⟩; refine ⟨_, rfl, ?_⟩; have n0_ := Aside0.mk (below_step (by repeat (first | (with_reducible first | exact HB.out | apply below_alloc | apply pw_below_drewN | apply below_drew1) | exact HB.out)) hb); clear HB; have HB := n0_; clear n0_; (try clear hb); (try clear hb2); (try clear hk); (try clear hi)) | ((with_reducible refine gate_callee (f := 13) rfl ?_); refine goesL_ (some 51) rfl rfl Try.func13 (by kernel_rfl) rfl #[.int .i64 ji6] rfl (by (try simp only [List.map_toArray, List.map_cons, List.map_nil]); first | done | (simp only [hji6]; rfl) | rfl | (simp only [List.length_drop, List.length_take]; rfl)) ?_; (with_reducible refine (bytes_Coded.calls kj8 ji6 t229 t230 _ A16.out).mono ?_); rintro e w39 ⟨rfl, hb⟩; refine ⟨_, rfl, ?_⟩; have n0_ := Aside0.mk (below_step (by repeat (first | (with_reducible first | exact HB.out | apply below_alloc | apply pw_below_drewN | apply below_drew1) | exact HB.out)) hb); clear HB; have HB := n0_; clear n0_; (try clear hb); (try clear hb2); (try clear hk); (try clear hi)))
            go_ret
            exact ⟨by first | rfl | (simp [errW_none, errW_some] <;> rfl) | (simp only [← hji3, ← hji4, ← hji5, ← hji6]; first | rfl | (simp [errW_none, errW_some] <;> rfl)) | (simp [*, errW_none, errW_some] <;> rfl), by repeat (first | (with_reducible first | exact HB.out | apply below_alloc | apply pw_below_drewN | apply below_drew1) | exact HB.out)⟩
        · rw [if_neg c17] at H
          have c17b0 : (t228 == 0) = false := beq_eq_false_iff_ne.mpr c17
          have c17b1 : (t228 != 0) = true := bne_iff_ne.mpr c17
          obtain rfl := Option.some.inj H
          go_wp2_with (first | ((with_reducible refine gate_callee (f := 13) rfl ?_); refine goesL_ (some 46) rfl rfl Try.func13 (by kernel_rfl) rfl #[.int .i64 ji4] rfl (by (try simp only [List.map_toArray, List.map_cons, List.map_nil]); first | done | (simp only [hji4]; rfl) | rfl | (simp only [List.length_drop, List.length_take]; rfl)) ?_; (with_reducible refine (bytes_Coded.calls kj8 ji4 t227 t228 _ A15.out).mono ?_); rintro e w40 ⟨rfl, hb⟩; refine ⟨_, rfl, ?_⟩; have n0_ := Aside0.mk (below_step (by repeat (first | (with_reducible first | exact HB.out | apply below_alloc | apply pw_below_drewN | apply below_drew1) | exact HB.out)) hb); clear HB; have HB := n0_; clear n0_; (try clear hb); (try clear hb2); (try clear hk); (try clear hi)) | ((with_reducible refine gate_callee (f := 13) rfl ?_); refine goesL_ (some 51) rfl rfl Try.func13 (by kernel_rfl) rfl #[.int .i64 ji6] rfl (by (try simp only [List.map_toArray, List.map_cons, List.map_nil]); first | done | (simp only [hji6]; rfl) | rfl | (simp only [List.length_drop, List.length_take]; rfl)) ?_; (with_reducible refine (bytes_Coded.calls kj8 ji6 t229 t230 _ A16.out).mono ?_); rintro e w41 ⟨rfl, hb⟩; refine ⟨_, rfl, ?_⟩; have n0_ := Aside0.mk (below_step (by repeat (first | (with_reducible first | exact HB.out | apply below_alloc | apply pw_below_drewN | apply below_drew1) | exact HB.out)) hb); clear HB; have HB := n0_; clear n0_; (try clear hb); (try clear hb2); (try clear hk); (try clear hi)))
          go_ret
          exact ⟨by first | rfl | (simp [errW_none, errW_some] <;> rfl) | (simp only [← hji3, ← hji4, ← hji5, ← hji6]; first | rfl | (simp [errW_none, errW_some] <;> rfl)) | (simp [*, errW_none, errW_some] <;> rfl), by repeat (first | (with_reducible first | exact HB.out | apply below_alloc | apply pw_below_drewN | apply below_drew1) | exact HB.out)⟩

/-- THE ONE PURE STATEMENT of lacquerlaw02_BytesOrder: yours. -/
def lacquerlaw02_BytesOrder.Pure : Prop := ∀ (a0 : Int) (a1 : Int), (Lit.int .i64 a0).wf = true → (Lit.int .i64 a1).wf = true → ∃ k, lacquerlaw02_BytesOrder.f k a0 a1 = some true
theorem lacquerlaw02_BytesOrder.walk (P : lacquerlaw02_BytesOrder.Pure) (a0 : Int) (a1 : Int) (w : World) (w0 : (Lit.int .i64 a0).wf = true) (w1 : (Lit.int .i64 a1).wf = true) :
    Calls Try.prog 5 #[.int .i64 a0, .int .i64 a1] w fun e w' => e = .returned (.bool true) ∧ Below w.heap.size w w' := by
  obtain ⟨k, h⟩ := P a0 a1 w0 w1
  refine (lacquerlaw02_BytesOrder.calls k a0 a1 true w h).mono ?_
  rintro e w' ⟨rfl, hd⟩
  exact ⟨rfl, hd⟩

end Go.Proofs.Ytfhkhbmpbmjlcaa.Q
