/- Texts of this claim's proof, laid behind each other: Printed by a program of ours (pp.sh), partly over contracts proved by hand; The plain law of layer 13: which blocks may be; a text as blocks; The plain law of layer 13: awake; which blocks may be -/
import Derived.Test.YtgihacaegmpggaaChk5
/- Printed by a program of ours (pp.sh), partly over contracts proved by hand. -/
namespace Go.Proofs.Ytgihacaegmpggaa.R
open Go.RowKit Go.Proofs.YtgihacaegmpggaaW.PrintWords Go.Proofs.YtgihacaegmpggaaW.PrintLast Go.Proofs.YtgihacaegmpggaaW.PrintMore
attribute [local go_sem] max2_int min2_int max_two min_two max_three min_three max_four min_four   -- for this text's walks alone
set_option linter.unusedVariables false
set_option linter.unusedSimpArgs false

/-! ### lacquerref13_Check: function 14 -/
def lacquerref13_Check.j0 : Nat → Bool → Int → ByteArray → Option (Int)
  | 0, _, _, _ => none
  | k + 1, x19, x271000, x271001 => if x19 = true then (some 2) else (if x271000 = 0 then ((lacquerref13_Info.f x271001).bind fun bt271 => (some bt271.2.2.2.2.2.2.2.2.2)) else (if x271000 = 2 then (if ((x271001.size : Int) ≥ 4) then (some 0) else (some 2)) else (if x271000 = 3 then (if (((x271001.size : Int) % 18) = 0) then (some 0) else (some 2)) else (if x271000 = 5 then ((lacquerref13_cuesheet.f k x271001).bind fun t282 => (if t282 = true then (some 0) else (some 2))) else (if x271000 = 6 then ((lacquerref13_picture.f k x271001).bind fun t283 => (if t283 = true then (some 0) else (some 2))) else (some 0))))))
def lacquerref13_Check.f (k : Nat) (a0_0 : Int) (a0_1 : ByteArray) : Option (Int) := if a0_0 < 0 then (lacquerref13_Check.j0 k true a0_0 a0_1) else (if a0_0 > 126 then (lacquerref13_Check.j0 k true a0_0 a0_1) else (lacquerref13_Check.j0 k (decide ((a0_1.size : Int) > 16777215)) a0_0 a0_1))
theorem lacquerref13_Check.mono_l : ∀ k, (∀ y0 y1 y2, LeO (lacquerref13_Check.j0 k y0 y1 y2) (lacquerref13_Check.j0 (k + 1) y0 y1 y2))
  | 0 => fun _ _ _ r h => by simp [lacquerref13_Check.j0] at h
  | k + 1 => by
    have ih0 := lacquerref13_Check.mono_l k
    · intro y0 y1 y2
      unfold lacquerref13_Check.j0
      repeat' first
      | (with_reducible exact ih0 _ _ _)
      | (with_reducible exact lacquerref13_cuesheet.mono _ _)
      | (with_reducible exact lacquerref13_picture.mono _ _)
      | (with_reducible exact LeO.refl _)
      | (with_reducible exact LeO.none _)
      | (with_reducible refine LeO.ite ?_ ?_)
      | (with_reducible refine LeO.bind ?_ (fun _ => ?_))
      | exact ih0 _ _ _
      | exact lacquerref13_cuesheet.mono _ _
      | exact lacquerref13_picture.mono _ _
      | exact LeO.none _
      | refine LeO.ite ?_ ?_
      | refine LeO.bind ?_ (fun _ => ?_)
theorem lacquerref13_Check.mono : ∀ a0 a1 k, LeO (lacquerref13_Check.f k a0 a1) (lacquerref13_Check.f (k + 1) a0 a1) := by
  intro a0 a1 k
  have ih0 := lacquerref13_Check.mono_l k
  unfold lacquerref13_Check.f
  repeat' first
      | (with_reducible exact ih0 _ _ _)
      | (with_reducible exact lacquerref13_cuesheet.mono _ _)
      | (with_reducible exact lacquerref13_picture.mono _ _)
      | (with_reducible exact LeO.refl _)
      | (with_reducible exact LeO.none _)
      | (with_reducible refine LeO.ite ?_ ?_)
      | (with_reducible refine LeO.bind ?_ (fun _ => ?_))
      | exact ih0 _ _ _
      | exact lacquerref13_cuesheet.mono _ _
      | exact lacquerref13_picture.mono _ _
      | exact LeO.none _
      | refine LeO.ite ?_ ?_
      | refine LeO.bind ?_ (fun _ => ?_)
set_option maxHeartbeats 8000000 in
set_option maxRecDepth 100000 in
theorem lacquerref13_Check.calls (k : Nat) (a0_0 : Int) (a0_1 : ByteArray) (r : Int) (w : World) (h : lacquerref13_Check.f k a0_0 a0_1 = some r) :
    Calls Try.prog 14 #[.agg #[.int .i64 a0_0, .string a0_1]] w fun e w' => e = .returned (.int .i64 r) ∧ Below w.heap.size w w' := by
  have hu36 := Try.underlying36
  have hu23 := Try.underlying23
  have HB := Aside0.mk (Below.refl w.heap.size w)
  have H : (if a0_0 < 0 then (lacquerref13_Check.j0 k true a0_0 a0_1) else (if a0_0 > 126 then (lacquerref13_Check.j0 k true a0_0 a0_1) else (lacquerref13_Check.j0 k (decide ((a0_1.size : Int) > 16777215)) a0_0 a0_1))) = some r := h
  clear h
  have HC2 := Aside0.mk H
  clear H
  go_enter Try.func14, Try.ntmps14
  go_upto_region 1 with (first | ((with_reducible refine gate_dst (N := 1) rfl ?_); (try (refine gate_guard (by rfl) ?_; dsimp only)); refine box_event ?hg (N := 1) ?hd (cs := #[.int .i64 a0_0, .string a0_1]) (t := 36) ?hr ?_; (case hd => rfl); (case hg => rfl); (case hr => first | (go_simp; done) | (go_simp; rfl)); intro gb270 hg w3 hbox hb; have n0_ := Aside0.mk (below_step (by repeat (first | (with_reducible first | exact HB.out | apply below_alloc | apply pw_below_drewN | apply below_drew1) | exact HB.out)) hb); have n1_ := Aside0.mk (hbox); have n2_ := Aside0.mk ((by rw [hg]; exact (below_size (by repeat (first | (with_reducible first | exact HB.out | apply below_alloc | apply pw_below_drewN | apply below_drew1) | exact HB.out))) : w.heap.size ≤ gb270)); have n3_ := Aside0.mk ((by rw [hg]; exact (below_size (by repeat (first | (with_reducible first | exact HB.out | apply below_alloc | apply pw_below_drewN | apply below_drew1) | exact HB.out))) : w.heap.size ≤ gb270)); clear HB; have HB := n0_; have BK270 := n1_; have GW270 := n2_; have GE270 := n3_; clear n0_ n1_ n2_ n3_; clear hb hbox hg))
  (try simp only [Act.put, List.setIfInBounds_toArray, List.set_cons_zero, List.set_cons_succ])
  go_cut [19] (fun v19 wc => ∃ (kq : Nat) (x19_1 : Bool), v19 = .bool x19_1 ∧ Aside0 (lacquerref13_Check.j0 kq x19_1 a0_0 a0_1 = some r) ∧ Aside0 (kq ≤ k) ∧ Aside0 (wc.heap[gb270]? = some (.cells #[.int .i64 a0_0, .string a0_1] 36 (0, 0))) ∧ Aside0 (Below w.heap.size w wc))
  case first =>
    have H := HC2.out
    clear HC2
    by_cases c4 : a0_0 < 0
    · rw [if_pos c4] at H
      have c4b0 : decide (a0_0 < 0) = true := decide_eq_true c4
      clear c4
      (first | rw [c4b0] | (simp only [i64_w, i32_w]; rw [c4b0]) | skip)
      have H' := Aside0.mk H
      clear H
      have hcz5_0 : w3.cell? ⟨gb270, 0, none⟩ = some (.int .i64 a0_0) := (blk_cell BK270.out 0).trans rfl
      have hcz5_1 : w3.cell? ⟨gb270, 1, none⟩ = some (.string a0_1) := (blk_cell BK270.out 1).trans rfl
      have hfz5_0 := blk_frozen BK270.out 0
      have hfz5_1 := blk_frozen BK270.out 1
      go_wp2
      go_meet
      case rel => exact ⟨_, (true), (by first | rfl | (simp; done) | (simp [*]; done)), H', ⟨by first | omega | exact Nat.le_refl _⟩, ⟨by (with_reducible repeat (first | refine blk_drewN ?_ _ | refine blk_drew ?_ | refine blk_alloc ?_ _)); exact BK270.out⟩, ⟨by repeat (first | (with_reducible first | exact HB.out | apply below_alloc | apply pw_below_drewN | apply below_drew1 | refine below_set ?_ GE270.out) | exact HB.out)⟩⟩
    · rw [if_neg c4] at H
      have c4b0 : decide (a0_0 < 0) = false := decide_eq_false c4
      clear c4
      (first | rw [c4b0] | (simp only [i64_w, i32_w]; rw [c4b0]) | skip)
      by_cases c6 : a0_0 > 126
      · rw [if_pos c6] at H
        have c6b0 : decide (126 < a0_0) = true := decide_eq_true c6
        clear c6
        have H' := Aside0.mk H
        clear H
        have hcz7_0 : w3.cell? ⟨gb270, 0, none⟩ = some (.int .i64 a0_0) := (blk_cell BK270.out 0).trans rfl
        have hcz7_1 : w3.cell? ⟨gb270, 1, none⟩ = some (.string a0_1) := (blk_cell BK270.out 1).trans rfl
        have hfz7_0 := blk_frozen BK270.out 0
        have hfz7_1 := blk_frozen BK270.out 1
        go_wp2
        go_meet
        case rel => exact ⟨_, (true), (by first | rfl | (simp; done) | (simp [*]; done)), H', ⟨by first | omega | exact Nat.le_refl _⟩, ⟨by (with_reducible repeat (first | refine blk_drewN ?_ _ | refine blk_drew ?_ | refine blk_alloc ?_ _)); exact BK270.out⟩, ⟨by repeat (first | (with_reducible first | exact HB.out | apply below_alloc | apply pw_below_drewN | apply below_drew1 | refine below_set ?_ GE270.out) | exact HB.out)⟩⟩
      · rw [if_neg c6] at H
        have c6b0 : decide (126 < a0_0) = false := decide_eq_false c6
        clear c6
        have H' := Aside0.mk H
        clear H
        have hcz8_0 : w3.cell? ⟨gb270, 0, none⟩ = some (.int .i64 a0_0) := (blk_cell BK270.out 0).trans rfl
        have hcz8_1 : w3.cell? ⟨gb270, 1, none⟩ = some (.string a0_1) := (blk_cell BK270.out 1).trans rfl
        have hfz8_0 := blk_frozen BK270.out 0
        have hfz8_1 := blk_frozen BK270.out 1
        go_wp2
        go_meet
        case rel => exact ⟨_, (decide ((a0_1.size : Int) > 16777215)), (by first | rfl | (simp; done) | (simp [*]; done)), H', ⟨by first | omega | exact Nat.le_refl _⟩, ⟨by (with_reducible repeat (first | refine blk_drewN ?_ _ | refine blk_drew ?_ | refine blk_alloc ?_ _)); exact BK270.out⟩, ⟨by repeat (first | (with_reducible first | exact HB.out | apply below_alloc | apply pw_below_drewN | apply below_drew1 | refine below_set ?_ GE270.out) | exact HB.out)⟩⟩
  case rest =>
    clear HC2
    try clear c1
    try clear p2
    try clear c4
    try clear c4b0
    try clear c6
    try clear c6b0
    try clear hcz5_0
    try clear hcz5_1
    try clear hcz7_0
    try clear hcz7_1
    try clear hcz8_0
    try clear hcz8_1
    try clear hfz5_0
    try clear hfz5_1
    try clear hfz7_0
    try clear hfz7_1
    try clear hfz8_0
    try clear hfz8_1
    obtain ⟨kq, x19_1, rfl, HA, HJ1, BK270, HB⟩ := hcut
    cases kq with
    | zero => exact absurd HA.out (by simp [lacquerref13_Check.j0])
    | succ kj1 =>
      have H := HA.out
      clear HA
      simp only [lacquerref13_Check.j0] at H
      by_cases c9 : x19_1 = true
      · subst c9
        have H1 : (some 2) = some r := by rw [if_pos rfl] at H; exact H
        clear H
        have H := H1
        clear H1
        obtain rfl := Option.some.inj H
        go_wp2
        go_ret
        exact ⟨by first | rfl | (simp [errW_none, errW_some] <;> rfl) | (simp [*, errW_none, errW_some] <;> rfl), by repeat (first | (with_reducible first | exact HB.out | apply below_alloc | apply pw_below_drewN | apply below_drew1 | refine below_set ?_ GE270.out) | exact HB.out)⟩
      · replace c9 := Bool.eq_false_iff.mpr c9
        subst c9
        have H1 : (if a0_0 = 0 then ((lacquerref13_Info.f a0_1).bind fun bt271 => (some bt271.2.2.2.2.2.2.2.2.2)) else (if a0_0 = 2 then (if ((a0_1.size : Int) ≥ 4) then (some 0) else (some 2)) else (if a0_0 = 3 then (if (((a0_1.size : Int) % 18) = 0) then (some 0) else (some 2)) else (if a0_0 = 5 then ((lacquerref13_cuesheet.f kj1 a0_1).bind fun t282 => (if t282 = true then (some 0) else (some 2))) else (if a0_0 = 6 then ((lacquerref13_picture.f kj1 a0_1).bind fun t283 => (if t283 = true then (some 0) else (some 2))) else (some 0)))))) = some r := by rw [if_neg (show ¬ (false = true) by decide)] at H; exact H
        clear H
        have H := H1
        clear H1
        by_cases c10 : a0_0 = 0
        · rw [if_pos c10] at H
          have c10b0 : (a0_0 == 0) = true := beq_iff_eq.mpr c10
          have c10b1 : (a0_0 != 0) = false := bne_eq_false_iff_eq.mpr c10
          clear c10
          replace H := Option.bind_eq_some_iff.mp H
          obtain ⟨⟨t271, t272, t273, t274, t275, t276, t277, t278, t279, t280⟩, A110, H⟩ := H
          replace H : (some t280) = some r := H
          have A11 := Aside0.mk A110
          clear A110
          obtain rfl := Option.some.inj H
          have hcz12_0 : wc.cell? ⟨gb270, 0, none⟩ = some (.int .i64 a0_0) := (blk_cell BK270.out 0).trans rfl
          have hcz12_1 : wc.cell? ⟨gb270, 1, none⟩ = some (.string a0_1) := (blk_cell BK270.out 1).trans rfl
          have hfz12_0 := blk_frozen BK270.out 0
          have hfz12_1 := blk_frozen BK270.out 1
          go_wp2_with (first | ((with_reducible refine gate_callee (f := 9) rfl ?_); refine goesL_ (some 27) rfl rfl Try.func9 (by kernel_rfl) rfl #[.string a0_1] rfl (by (try simp only [List.map_toArray, List.map_cons, List.map_nil]); first | done | rfl | (simp only [List.length_drop, List.length_take]; rfl)) ?_; (with_reducible refine (lacquerref13_Info.calls a0_1 t271 t272 t273 t274 t275 t276 t277 t278 t279 t280 _ A11.out).mono ?_); rintro e w13 ⟨rfl, hb⟩; refine ⟨_, rfl, ?_⟩; have n0_ := Aside0.mk (blk_below (g := gb270) (o := .cells #[.int .i64 a0_0, .string a0_1] 36 (0, 0)) (by (with_reducible repeat (first | refine blk_drewN ?_ _ | refine blk_drew ?_ | refine blk_alloc ?_ _)); exact BK270.out) hb); have n1_ := Aside0.mk (below_step (by repeat (first | (with_reducible first | exact HB.out | apply below_alloc | apply pw_below_drewN | apply below_drew1 | refine below_set ?_ GE270.out) | exact HB.out)) hb); clear BK270; clear HB; have BK270 := n0_; have HB := n1_; clear n0_ n1_; (try clear hb); (try clear hb2); (try clear hk); (try clear hi)) | ((with_reducible refine gate_dst (N := 4) rfl ?_); (try (refine gate_guard (by rfl) ?_; dsimp only)); refine box_event ?hg (N := 4) ?hd (cs := #[.int .i64 0, .int .i64 0, .int .i64 0, .int .i64 0, .int .i64 0, .int .i64 0, .int .i64 0, .int .i64 0, .string (⟨#[]⟩ : ByteArray)]) (t := 23) ?hr ?_; (case hd => rfl); (case hg => rfl); (case hr => first | (go_simp; done) | (go_simp; rfl)); intro gb281 hg w14 hbox hb; have n0_ := Aside0.mk (blk_below (g := gb270) (o := .cells #[.int .i64 a0_0, .string a0_1] 36 (0, 0)) (by (with_reducible repeat (first | refine blk_drewN ?_ _ | refine blk_drew ?_ | refine blk_alloc ?_ _)); exact BK270.out) hb); have n1_ := Aside0.mk (below_step (by repeat (first | (with_reducible first | exact HB.out | apply below_alloc | apply pw_below_drewN | apply below_drew1 | refine below_set ?_ GE270.out) | exact HB.out)) hb); have n2_ := Aside0.mk (hbox); have n3_ := Aside0.mk ((by rw [hg]; exact (below_size (by repeat (first | (with_reducible first | exact HB.out | apply below_alloc | apply pw_below_drewN | apply below_drew1 | refine below_set ?_ GE270.out) | exact HB.out))) : w.heap.size ≤ gb281)); have n4_ := Aside0.mk ((by rw [hg]; exact (below_size (by repeat (first | (with_reducible first | exact HB.out | apply below_alloc | apply pw_below_drewN | apply below_drew1 | refine below_set ?_ GE270.out) | exact HB.out))) : w.heap.size ≤ gb281)); have n5_ := Aside0.mk ((by rw [hg]; exact Nat.ne_of_lt (blk_lt (g := gb270) (o := .cells #[.int .i64 a0_0, .string a0_1] 36 (0, 0)) (by (with_reducible repeat (first | refine blk_drewN ?_ _ | refine blk_drew ?_ | refine blk_alloc ?_ _)); exact BK270.out)) : gb270 ≠ gb281)); have n6_ := Aside0.mk ((by rw [hg]; exact Nat.ne_of_gt (blk_lt (g := gb270) (o := .cells #[.int .i64 a0_0, .string a0_1] 36 (0, 0)) (by (with_reducible repeat (first | refine blk_drewN ?_ _ | refine blk_drew ?_ | refine blk_alloc ?_ _)); exact BK270.out)) : gb281 ≠ gb270)); clear BK270; clear HB; have BK270 := n0_; have HB := n1_; have BK281 := n2_; have GW281 := n3_; have GE281 := n4_; have NB270_281 := n5_; have NB281_270 := n6_; clear n0_ n1_ n2_ n3_ n4_ n5_ n6_; clear hb hbox hg; have hnb15 := NB281_270.out; have hnc15 := NB270_281.out; have hcz16_0 : w14.cell? ⟨gb281, 0, none⟩ = some (.int .i64 0) := (blk_cell BK281.out 0).trans rfl; have hcz16_1 : w14.cell? ⟨gb281, 1, none⟩ = some (.int .i64 0) := (blk_cell BK281.out 1).trans rfl; have hcz16_2 : w14.cell? ⟨gb281, 2, none⟩ = some (.int .i64 0) := (blk_cell BK281.out 2).trans rfl; have hcz16_3 : w14.cell? ⟨gb281, 3, none⟩ = some (.int .i64 0) := (blk_cell BK281.out 3).trans rfl; have hcz16_4 : w14.cell? ⟨gb281, 4, none⟩ = some (.int .i64 0) := (blk_cell BK281.out 4).trans rfl; have hcz16_5 : w14.cell? ⟨gb281, 5, none⟩ = some (.int .i64 0) := (blk_cell BK281.out 5).trans rfl; have hcz16_6 : w14.cell? ⟨gb281, 6, none⟩ = some (.int .i64 0) := (blk_cell BK281.out 6).trans rfl; have hcz16_7 : w14.cell? ⟨gb281, 7, none⟩ = some (.int .i64 0) := (blk_cell BK281.out 7).trans rfl; have hcz16_8 : w14.cell? ⟨gb281, 8, none⟩ = some (.string (⟨#[]⟩ : ByteArray)) := (blk_cell BK281.out 8).trans rfl; have hfz16_0 := blk_frozen BK281.out 0; have hfz16_1 := blk_frozen BK281.out 1; have hfz16_2 := blk_frozen BK281.out 2; have hfz16_3 := blk_frozen BK281.out 3; have hfz16_4 := blk_frozen BK281.out 4; have hfz16_5 := blk_frozen BK281.out 5; have hfz16_6 := blk_frozen BK281.out 6; have hfz16_7 := blk_frozen BK281.out 7; have hfz16_8 := blk_frozen BK281.out 8))
          go_ret
          exact ⟨by first | rfl | (simp [errW_none, errW_some] <;> rfl) | (simp [*, errW_none, errW_some] <;> rfl), by repeat (first | (with_reducible first | exact HB.out | apply below_alloc | apply pw_below_drewN | apply below_drew1 | refine below_set ?_ GE270.out | refine below_set ?_ GE281.out) | exact HB.out)⟩
        · rw [if_neg c10] at H
          have c10b0 : (a0_0 == 0) = false := beq_eq_false_iff_ne.mpr c10
          have c10b1 : (a0_0 != 0) = true := bne_iff_ne.mpr c10
          by_cases c17 : a0_0 = 2
          · rw [if_pos c17] at H
            have c17b0 : (a0_0 == 2) = true := beq_iff_eq.mpr c17
            have c17b1 : (a0_0 != 2) = false := bne_eq_false_iff_eq.mpr c17
            clear c17
            by_cases c18 : ((a0_1.size : Int) ≥ 4)
            · rw [if_pos c18] at H
              have c18b0 : decide (4 ≤ (a0_1.size : Int)) = true := decide_eq_true c18
              have c18b1 : decide (4 ≤ a0_1.size) = true := decide_eq_true (by omega)
              clear c18
              obtain rfl := Option.some.inj H
              have hcz19_0 : wc.cell? ⟨gb270, 0, none⟩ = some (.int .i64 a0_0) := (blk_cell BK270.out 0).trans rfl
              have hcz19_1 : wc.cell? ⟨gb270, 1, none⟩ = some (.string a0_1) := (blk_cell BK270.out 1).trans rfl
              have hfz19_0 := blk_frozen BK270.out 0
              have hfz19_1 := blk_frozen BK270.out 1
              go_wp2
              go_ret
              exact ⟨by first | rfl | (simp [errW_none, errW_some] <;> rfl) | (simp [*, errW_none, errW_some] <;> rfl), by repeat (first | (with_reducible first | exact HB.out | apply below_alloc | apply pw_below_drewN | apply below_drew1 | refine below_set ?_ GE270.out) | exact HB.out)⟩
            · rw [if_neg c18] at H
              have c18b0 : decide (4 ≤ (a0_1.size : Int)) = false := decide_eq_false c18
              have c18b1 : decide (4 ≤ a0_1.size) = false := decide_eq_false (by omega)
              clear c18
              obtain rfl := Option.some.inj H
              have hcz20_0 : wc.cell? ⟨gb270, 0, none⟩ = some (.int .i64 a0_0) := (blk_cell BK270.out 0).trans rfl
              have hcz20_1 : wc.cell? ⟨gb270, 1, none⟩ = some (.string a0_1) := (blk_cell BK270.out 1).trans rfl
              have hfz20_0 := blk_frozen BK270.out 0
              have hfz20_1 := blk_frozen BK270.out 1
              go_wp2
              go_ret
              exact ⟨by first | rfl | (simp [errW_none, errW_some] <;> rfl) | (simp [*, errW_none, errW_some] <;> rfl), by repeat (first | (with_reducible first | exact HB.out | apply below_alloc | apply pw_below_drewN | apply below_drew1 | refine below_set ?_ GE270.out) | exact HB.out)⟩
          · rw [if_neg c17] at H
            have c17b0 : (a0_0 == 2) = false := beq_eq_false_iff_ne.mpr c17
            have c17b1 : (a0_0 != 2) = true := bne_iff_ne.mpr c17
            by_cases c21 : a0_0 = 3
            · rw [if_pos c21] at H
              have c21b0 : (a0_0 == 3) = true := beq_iff_eq.mpr c21
              have c21b1 : (a0_0 != 3) = false := bne_eq_false_iff_eq.mpr c21
              clear c21
              by_cases c22 : (((a0_1.size : Int) % 18) = 0)
              · rw [if_pos c22] at H
                have c22b0 : (((a0_1.size : Int) % 18) == 0) = true := beq_iff_eq.mpr c22
                have c22b1 : (((a0_1.size : Int) % 18) != 0) = false := bne_eq_false_iff_eq.mpr c22
                clear c22
                obtain rfl := Option.some.inj H
                have hcz23_0 : wc.cell? ⟨gb270, 0, none⟩ = some (.int .i64 a0_0) := (blk_cell BK270.out 0).trans rfl
                have hcz23_1 : wc.cell? ⟨gb270, 1, none⟩ = some (.string a0_1) := (blk_cell BK270.out 1).trans rfl
                have hfz23_0 := blk_frozen BK270.out 0
                have hfz23_1 := blk_frozen BK270.out 1
                go_wp2
                go_ret
                exact ⟨by first | rfl | (simp [errW_none, errW_some] <;> rfl) | (simp [*, errW_none, errW_some] <;> rfl), by repeat (first | (with_reducible first | exact HB.out | apply below_alloc | apply pw_below_drewN | apply below_drew1 | refine below_set ?_ GE270.out) | exact HB.out)⟩
              · rw [if_neg c22] at H
                have c22b0 : (((a0_1.size : Int) % 18) == 0) = false := beq_eq_false_iff_ne.mpr c22
                have c22b1 : (((a0_1.size : Int) % 18) != 0) = true := bne_iff_ne.mpr c22
                obtain rfl := Option.some.inj H
                have hcz24_0 : wc.cell? ⟨gb270, 0, none⟩ = some (.int .i64 a0_0) := (blk_cell BK270.out 0).trans rfl
                have hcz24_1 : wc.cell? ⟨gb270, 1, none⟩ = some (.string a0_1) := (blk_cell BK270.out 1).trans rfl
                have hfz24_0 := blk_frozen BK270.out 0
                have hfz24_1 := blk_frozen BK270.out 1
                go_wp2
                go_ret
                exact ⟨by first | rfl | (simp [errW_none, errW_some] <;> rfl) | (simp [*, errW_none, errW_some] <;> rfl), by repeat (first | (with_reducible first | exact HB.out | apply below_alloc | apply pw_below_drewN | apply below_drew1 | refine below_set ?_ GE270.out) | exact HB.out)⟩
            · rw [if_neg c21] at H
              have c21b0 : (a0_0 == 3) = false := beq_eq_false_iff_ne.mpr c21
              have c21b1 : (a0_0 != 3) = true := bne_iff_ne.mpr c21
              by_cases c25 : a0_0 = 5
              · rw [if_pos c25] at H
                have c25b0 : (a0_0 == 5) = true := beq_iff_eq.mpr c25
                have c25b1 : (a0_0 != 5) = false := bne_eq_false_iff_eq.mpr c25
                clear c25
                replace H := Option.bind_eq_some_iff.mp H
                obtain ⟨t282, A260, H⟩ := H
                replace H : (if t282 = true then (some 0) else (some 2)) = some r := H
                have A26 := Aside0.mk A260
                clear A260
                by_cases c27 : t282 = true
                · subst c27
                  have H1 : (some 0) = some r := by rw [if_pos rfl] at H; exact H
                  clear H
                  have H := H1
                  clear H1
                  obtain rfl := Option.some.inj H
                  have hcz28_0 : wc.cell? ⟨gb270, 0, none⟩ = some (.int .i64 a0_0) := (blk_cell BK270.out 0).trans rfl
                  have hcz28_1 : wc.cell? ⟨gb270, 1, none⟩ = some (.string a0_1) := (blk_cell BK270.out 1).trans rfl
                  have hfz28_0 := blk_frozen BK270.out 0
                  have hfz28_1 := blk_frozen BK270.out 1
                  go_wp2_with (first | ((with_reducible refine gate_callee (f := 32) rfl ?_); refine goesL_ (some 48) rfl rfl Try.func32 (by kernel_rfl) rfl #[.string a0_1] rfl (by (try simp only [List.map_toArray, List.map_cons, List.map_nil]); first | done | rfl | (simp only [List.length_drop, List.length_take]; rfl)) ?_; (with_reducible refine (lacquerref13_cuesheet.calls kj1 a0_1 true _ A26.out).mono ?_); rintro e w' ⟨rfl, ⟨nd, rfl⟩⟩; refine ⟨_, rfl, ?_⟩))
                  go_ret
                  exact ⟨by first | rfl | (simp [errW_none, errW_some] <;> rfl) | (simp [*, errW_none, errW_some] <;> rfl), by repeat (first | (with_reducible first | exact HB.out | apply below_alloc | apply pw_below_drewN | apply below_drew1 | refine below_set ?_ GE270.out) | exact HB.out)⟩
                · replace c27 := Bool.eq_false_iff.mpr c27
                  subst c27
                  have H1 : (some 2) = some r := by rw [if_neg (show ¬ (false = true) by decide)] at H; exact H
                  clear H
                  have H := H1
                  clear H1
                  obtain rfl := Option.some.inj H
                  have hcz29_0 : wc.cell? ⟨gb270, 0, none⟩ = some (.int .i64 a0_0) := (blk_cell BK270.out 0).trans rfl
                  have hcz29_1 : wc.cell? ⟨gb270, 1, none⟩ = some (.string a0_1) := (blk_cell BK270.out 1).trans rfl
                  have hfz29_0 := blk_frozen BK270.out 0
                  have hfz29_1 := blk_frozen BK270.out 1
                  go_wp2_with (first | ((with_reducible refine gate_callee (f := 32) rfl ?_); refine goesL_ (some 48) rfl rfl Try.func32 (by kernel_rfl) rfl #[.string a0_1] rfl (by (try simp only [List.map_toArray, List.map_cons, List.map_nil]); first | done | rfl | (simp only [List.length_drop, List.length_take]; rfl)) ?_; (with_reducible refine (lacquerref13_cuesheet.calls kj1 a0_1 false _ A26.out).mono ?_); rintro e w' ⟨rfl, ⟨nd, rfl⟩⟩; refine ⟨_, rfl, ?_⟩))
                  go_ret
                  exact ⟨by first | rfl | (simp [errW_none, errW_some] <;> rfl) | (simp [*, errW_none, errW_some] <;> rfl), by repeat (first | (with_reducible first | exact HB.out | apply below_alloc | apply pw_below_drewN | apply below_drew1 | refine below_set ?_ GE270.out) | exact HB.out)⟩
              · rw [if_neg c25] at H
                have c25b0 : (a0_0 == 5) = false := beq_eq_false_iff_ne.mpr c25
                have c25b1 : (a0_0 != 5) = true := bne_iff_ne.mpr c25
                by_cases c30 : a0_0 = 6
                · rw [if_pos c30] at H
                  have c30b0 : (a0_0 == 6) = true := beq_iff_eq.mpr c30
                  have c30b1 : (a0_0 != 6) = false := bne_eq_false_iff_eq.mpr c30
                  clear c30
                  replace H := Option.bind_eq_some_iff.mp H
                  obtain ⟨t283, A310, H⟩ := H
                  replace H : (if t283 = true then (some 0) else (some 2)) = some r := H
                  have A31 := Aside0.mk A310
                  clear A310
                  by_cases c32 : t283 = true
                  · subst c32
                    have H1 : (some 0) = some r := by rw [if_pos rfl] at H; exact H
                    clear H
                    have H := H1
                    clear H1
                    obtain rfl := Option.some.inj H
                    have hcz33_0 : wc.cell? ⟨gb270, 0, none⟩ = some (.int .i64 a0_0) := (blk_cell BK270.out 0).trans rfl
                    have hcz33_1 : wc.cell? ⟨gb270, 1, none⟩ = some (.string a0_1) := (blk_cell BK270.out 1).trans rfl
                    have hfz33_0 := blk_frozen BK270.out 0
                    have hfz33_1 := blk_frozen BK270.out 1
                    go_wp2_with (first | ((with_reducible refine gate_callee (f := 33) rfl ?_); refine goesL_ (some 53) rfl rfl Try.func33 (by kernel_rfl) rfl #[.string a0_1] rfl (by (try simp only [List.map_toArray, List.map_cons, List.map_nil]); first | done | rfl | (simp only [List.length_drop, List.length_take]; rfl)) ?_; (with_reducible refine (lacquerref13_picture.calls kj1 a0_1 true _ A31.out).mono ?_); rintro e w' ⟨rfl, ⟨nd, rfl⟩⟩; refine ⟨_, rfl, ?_⟩))
                    go_ret
                    exact ⟨by first | rfl | (simp [errW_none, errW_some] <;> rfl) | (simp [*, errW_none, errW_some] <;> rfl), by repeat (first | (with_reducible first | exact HB.out | apply below_alloc | apply pw_below_drewN | apply below_drew1 | refine below_set ?_ GE270.out) | exact HB.out)⟩
                  · replace c32 := Bool.eq_false_iff.mpr c32
                    subst c32
                    have H1 : (some 2) = some r := by rw [if_neg (show ¬ (false = true) by decide)] at H; exact H
                    clear H
                    have H := H1
                    clear H1
                    obtain rfl := Option.some.inj H
                    have hcz34_0 : wc.cell? ⟨gb270, 0, none⟩ = some (.int .i64 a0_0) := (blk_cell BK270.out 0).trans rfl
                    have hcz34_1 : wc.cell? ⟨gb270, 1, none⟩ = some (.string a0_1) := (blk_cell BK270.out 1).trans rfl
                    have hfz34_0 := blk_frozen BK270.out 0
                    have hfz34_1 := blk_frozen BK270.out 1
                    go_wp2_with (first | ((with_reducible refine gate_callee (f := 33) rfl ?_); refine goesL_ (some 53) rfl rfl Try.func33 (by kernel_rfl) rfl #[.string a0_1] rfl (by (try simp only [List.map_toArray, List.map_cons, List.map_nil]); first | done | rfl | (simp only [List.length_drop, List.length_take]; rfl)) ?_; (with_reducible refine (lacquerref13_picture.calls kj1 a0_1 false _ A31.out).mono ?_); rintro e w' ⟨rfl, ⟨nd, rfl⟩⟩; refine ⟨_, rfl, ?_⟩))
                    go_ret
                    exact ⟨by first | rfl | (simp [errW_none, errW_some] <;> rfl) | (simp [*, errW_none, errW_some] <;> rfl), by repeat (first | (with_reducible first | exact HB.out | apply below_alloc | apply pw_below_drewN | apply below_drew1 | refine below_set ?_ GE270.out) | exact HB.out)⟩
                · rw [if_neg c30] at H
                  have c30b0 : (a0_0 == 6) = false := beq_eq_false_iff_ne.mpr c30
                  have c30b1 : (a0_0 != 6) = true := bne_iff_ne.mpr c30
                  obtain rfl := Option.some.inj H
                  have hcz35_0 : wc.cell? ⟨gb270, 0, none⟩ = some (.int .i64 a0_0) := (blk_cell BK270.out 0).trans rfl
                  have hcz35_1 : wc.cell? ⟨gb270, 1, none⟩ = some (.string a0_1) := (blk_cell BK270.out 1).trans rfl
                  have hfz35_0 := blk_frozen BK270.out 0
                  have hfz35_1 := blk_frozen BK270.out 1
                  go_wp2
                  go_ret
                  exact ⟨by first | rfl | (simp [errW_none, errW_some] <;> rfl) | (simp [*, errW_none, errW_some] <;> rfl), by repeat (first | (with_reducible first | exact HB.out | apply below_alloc | apply pw_below_drewN | apply below_drew1 | refine below_set ?_ GE270.out) | exact HB.out)⟩

/-! ### lacquerlaw13_MetaChecks: function 4 -/
def lacquerlaw13_MetaChecks.f (k : Nat) (a0_0 : Int) (a0_1 : ByteArray) : Option (Bool) := (meta_Check.f k a0_0 a0_1).bind fun t285 => ((lacquerref13_Check.f k a0_0 a0_1).bind fun t286 => (if t285 = t286 then ((lacquerlaw13_awake.f k).bind fun t287 => (some t287)) else (none)))
theorem lacquerlaw13_MetaChecks.mono : ∀ a0 a1 k, LeO (lacquerlaw13_MetaChecks.f k a0 a1) (lacquerlaw13_MetaChecks.f (k + 1) a0 a1) := by
  intro a0 a1 k
  unfold lacquerlaw13_MetaChecks.f
  repeat' first
      | (with_reducible exact lacquerlaw13_awake.mono _)
      | (with_reducible exact lacquerref13_Check.mono _ _ _)
      | (with_reducible exact meta_Check.mono _ _ _)
      | (with_reducible exact LeO.refl _)
      | (with_reducible exact LeO.none _)
      | (with_reducible refine LeO.ite ?_ ?_)
      | (with_reducible refine LeO.bind ?_ (fun _ => ?_))
      | exact lacquerlaw13_awake.mono _
      | exact lacquerref13_Check.mono _ _ _
      | exact meta_Check.mono _ _ _
      | exact LeO.none _
      | refine LeO.ite ?_ ?_
      | refine LeO.bind ?_ (fun _ => ?_)
def lacquerlaw13_MetaChecks.T1 : Bool × List (List Nat × List Nat) := (true, [([], []), ([0], [0]), ([], []), ([2, 1], [2]), ([1, 3], [1, 3]), ([4, 3], [4]), ([5, 5], [5]), ([5, 6], [5, 6]), ([7, 6, 0, 1, 2, 3, 4, 5, 6, 7], [7])])
def lacquerlaw13_MetaChecks.B1 : List Nat := [0, 1, 0, 7, 15, 31, 63, 127, 255]
theorem lacquerlaw13_MetaChecks.tab1 : rtab .any (opsOf Try.f4 1) = lacquerlaw13_MetaChecks.T1 := by kernel_rfl
theorem lacquerlaw13_MetaChecks.bits1 : waitsOk lacquerlaw13_MetaChecks.T1.2 lacquerlaw13_MetaChecks.B1 = true := by kernel_rfl
set_option maxHeartbeats 8000000 in
set_option maxRecDepth 100000 in
theorem lacquerlaw13_MetaChecks.calls (k : Nat) (a0_0 : Int) (a0_1 : ByteArray) (r : Bool) (w : World) (h : lacquerlaw13_MetaChecks.f k a0_0 a0_1 = some r) :
    Calls Try.prog 4 #[.agg #[.int .i64 a0_0, .string a0_1]] w fun e w' => e = .returned (.bool r) ∧ Below w.heap.size w w' := by
  have hu36 := Try.underlying36
  have HB := Aside0.mk (Below.refl w.heap.size w)
  have H : ((meta_Check.f k a0_0 a0_1).bind fun t285 => ((lacquerref13_Check.f k a0_0 a0_1).bind fun t286 => (if t285 = t286 then ((lacquerlaw13_awake.f k).bind fun t287 => (some t287)) else (none)))) = some r := h
  clear h
  replace H := Option.bind_eq_some_iff.mp H
  obtain ⟨t285, A20, H⟩ := H
  replace H : ((lacquerref13_Check.f k a0_0 a0_1).bind fun t286 => (if t285 = t286 then ((lacquerlaw13_awake.f k).bind fun t287 => (some t287)) else (none))) = some r := H
  have A2 := Aside0.mk A20
  clear A20
  replace H := Option.bind_eq_some_iff.mp H
  obtain ⟨t286, A30, H⟩ := H
  replace H : (if t285 = t286 then ((lacquerlaw13_awake.f k).bind fun t287 => (some t287)) else (none)) = some r := H
  have A3 := Aside0.mk A30
  clear A30
  by_cases c4 : t285 = t286
  · rw [if_pos c4] at H
    have c4b0 : (t285 == t286) = true := beq_iff_eq.mpr c4
    have c4b1 : (t285 != t286) = false := bne_eq_false_iff_eq.mpr c4
    clear c4
    replace H := Option.bind_eq_some_iff.mp H
    obtain ⟨t287, A50, H⟩ := H
    replace H : (some t287) = some r := H
    have A5 := Aside0.mk A50
    clear A50
    obtain rfl := Option.some.inj H
    go_enter Try.func4, Try.ntmps4
    try go_wp2_with (first | ((with_reducible refine gate_dst (N := 1) rfl ?_); refine box_event ?hg (N := 1) ?hd (cs := #[.int .i64 a0_0, .string a0_1]) (t := 36) ?hr ?_; (case hd => rfl); (case hg => rfl); (case hr => first | (go_simp; done) | (go_simp; rfl)); intro gb284 hg w6 hbox hb; have n0_ := Aside0.mk (below_step (by repeat (first | (with_reducible first | exact HB.out | apply below_alloc | apply pw_below_drewN | apply below_drew1) | exact HB.out)) hb); have n1_ := Aside0.mk (hbox); have n2_ := Aside0.mk ((by rw [hg]; exact (below_size (by repeat (first | (with_reducible first | exact HB.out | apply below_alloc | apply pw_below_drewN | apply below_drew1) | exact HB.out))) : w.heap.size ≤ gb284)); have n3_ := Aside0.mk ((by rw [hg]; exact (below_size (by repeat (first | (with_reducible first | exact HB.out | apply below_alloc | apply pw_below_drewN | apply below_drew1) | exact HB.out))) : w.heap.size ≤ gb284)); clear HB; have HB := n0_; have BK284 := n1_; have GW284 := n2_; have GE284 := n3_; clear n0_ n1_ n2_ n3_; clear hb hbox hg))
    have n0_ := Aside0.mk (blk_drew BK284.out)
    have n1_ := Aside0.mk (below_drew1 HB.out)
    clear BK284
    clear HB
    have BK284 := n0_
    have HB := n1_
    clear n0_ n1_
    refine start_ (n := 9) (S := fun w' => w'.cell? ⟨gb284, 0, none⟩ = some (.int .i64 a0_0) ∧ w'.cell? ⟨gb284, 1, none⟩ = some (.string a0_1)) (ds := []) #[false, false, false, false, false, false, false, false, false] (by kernel_rfl) rfl rfl ⟨(blk_cell BK284.out 0).trans rfl, (blk_cell BK284.out 1).trans rfl⟩ (fun hHeld => ?_); refine with_tabW lacquerlaw13_MetaChecks.tab1 lacquerlaw13_MetaChecks.bits1 (fun HT_ HW_ => ?_)
    generalize w6.drew = w7 at BK284 HB hHeld ⊢
    refine take_ (i := 0) (N := some 3) (v := ?_) (a' := ?_) #[true, false, false, false, false, false, false, false, false] rfl rfl (take_ofW HT_.out HW_.out (by kernel_rfl)) (fun _ _ _ h => h) (Or.inl ⟨by rfl, ?_⟩) hHeld ?_ ?_
    rotate_left
    · rintro w' ⟨s0, s1⟩
      go_simp
      with_reducible rfl
    rotate_left
    · simp only [Act.put, List.setIfInBounds_toArray, List.set_cons_zero, List.set_cons_succ, i64_w, i32_w]
      rfl
    refine take_ (i := 2) (N := some 5) (v := ?_) (a' := ?_) #[true, false, true, false, false, false, false, false, false] rfl rfl (take_ofW HT_.out HW_.out (by kernel_rfl)) (fun _ _ _ h => h) (Or.inl ⟨by rfl, ?_⟩) hHeld ?_ ?_
    rotate_left
    · rintro w' ⟨s0, s1⟩
      go_simp
      with_reducible rfl
    rotate_left
    · simp only [Act.put, List.setIfInBounds_toArray, List.set_cons_zero, List.set_cons_succ, i64_w, i32_w]
      rfl
    refine one_ (i := 1) (N := some 4) #[true, true, true, false, false, false, false, false, false] rfl rfl (one_of HT_.out (by kernel_rfl)) (by decide) (fun K hK => ?_)
    refine goes_ Try.func13 (by kernel_rfl) rfl #[.agg #[.int .i64 a0_0, .string a0_1]] (by rfl) rfl rfl (by (try simp only [List.map_toArray, List.map_cons, List.map_nil]); first | done | rfl | (simp only [List.length_drop, List.length_take]; rfl)) ?_
    with_reducible refine (meta_Check.calls k a0_0 a0_1 t285 _ A2.out).mono ?_
    rintro e w8 ⟨rfl, hb⟩
    refine ⟨_, rfl, ?_⟩
    have n0_ := Aside0.mk (blk_below (g := gb284) (o := .cells #[.int .i64 a0_0, .string a0_1] 36 (0, 0)) (by (with_reducible repeat (first | refine blk_drewN ?_ _ | refine blk_drew ?_ | refine blk_alloc ?_ _)); exact BK284.out) hb)
    have n1_ := Aside0.mk (below_step (by repeat (first | (with_reducible first | exact HB.out | apply below_alloc | apply pw_below_drewN | apply below_drew1 | refine below_set ?_ GE284.out) | exact HB.out)) hb)
    clear BK284
    clear HB
    have BK284 := n0_
    have HB := n1_
    clear n0_ n1_
    (try clear hb)
    (try clear hb2)
    (try clear hk)
    (try clear hi)
    refine hK.out _ _ ⟨(blk_cell BK284.out 0).trans rfl, (blk_cell BK284.out 1).trans rfl⟩ (fun hHeld => ?_)
    clear hK K
    refine norm_ (a' := ?_) ?_ ?_
    rotate_left
    · show Act.put _ (some 4) _ = _
      simp only [Act.put, List.setIfInBounds_toArray, List.set_cons_zero, List.set_cons_succ, i64_w, i32_w]
      rfl
    refine one_ (i := 3) (N := some 6) #[true, true, true, true, false, false, false, false, false] rfl rfl (one_of HT_.out (by kernel_rfl)) (by decide) (fun K hK => ?_)
    refine goes_ Try.func14 (by kernel_rfl) rfl #[.agg #[.int .i64 a0_0, .string a0_1]] (by rfl) rfl rfl (by (try simp only [List.map_toArray, List.map_cons, List.map_nil]); first | done | rfl | (simp only [List.length_drop, List.length_take]; rfl)) ?_
    with_reducible refine (lacquerref13_Check.calls k a0_0 a0_1 t286 _ A3.out).mono ?_
    rintro e w9 ⟨rfl, hb⟩
    refine ⟨_, rfl, ?_⟩
    have n0_ := Aside0.mk (blk_below (g := gb284) (o := .cells #[.int .i64 a0_0, .string a0_1] 36 (0, 0)) (by (with_reducible repeat (first | refine blk_drewN ?_ _ | refine blk_drew ?_ | refine blk_alloc ?_ _)); exact BK284.out) hb)
    have n1_ := Aside0.mk (below_step (by repeat (first | (with_reducible first | exact HB.out | apply below_alloc | apply pw_below_drewN | apply below_drew1 | refine below_set ?_ GE284.out) | exact HB.out)) hb)
    clear BK284
    clear HB
    have BK284 := n0_
    have HB := n1_
    clear n0_ n1_
    (try clear hb)
    (try clear hb2)
    (try clear hk)
    (try clear hi)
    refine hK.out _ _ ⟨(blk_cell BK284.out 0).trans rfl, (blk_cell BK284.out 1).trans rfl⟩ (fun hHeld => ?_)
    clear hK K
    refine norm_ (a' := ?_) ?_ ?_
    rotate_left
    · show Act.put _ (some 6) _ = _
      simp only [Act.put, List.setIfInBounds_toArray, List.set_cons_zero, List.set_cons_succ, i64_w, i32_w]
      rfl
    refine pure_ (i := 4) (N := some 7) (v := ?_) (a' := ?_) #[true, true, true, true, true, false, false, false, false] rfl rfl (any_of HT_.out (by kernel_rfl)) (fun _ _ _ h => h) (Or.inl ⟨by rfl, ?_⟩) ?_ ?_
    rotate_left
    · intro w'
      go_simp
      with_reducible rfl
    rotate_left
    · simp only [Act.put, List.setIfInBounds_toArray, List.set_cons_zero, List.set_cons_succ, i64_w, i32_w]
      rfl
    refine pure_ (i := 5) (N := some 8) (v := ?_) (a' := ?_) #[true, true, true, true, true, true, false, false, false] rfl rfl (any_of HT_.out (by kernel_rfl)) (fun _ _ _ h => h) (Or.inl ⟨by rfl, ?_⟩) ?_ ?_
    rotate_left
    · intro w'
      go_simp
      with_reducible rfl
    rotate_left
    · simp only [Act.put, List.setIfInBounds_toArray, List.set_cons_zero, List.set_cons_succ, i64_w, i32_w]
      rfl
    refine one_ (i := 6) (N := some 9) #[true, true, true, true, true, true, true, false, false] rfl rfl (one_of HT_.out (by kernel_rfl)) (by decide) (fun K hK => ?_)
    refine goes_ Try.func12 (by kernel_rfl) rfl #[] (by rfl) rfl rfl (by (try simp only [List.map_toArray, List.map_cons, List.map_nil]); first | done | rfl | (simp only [List.length_drop, List.length_take]; rfl)) ?_
    with_reducible refine (lacquerlaw13_awake.calls k  t287 _ A5.out).mono ?_
    rintro e w10 ⟨rfl, hb⟩
    refine ⟨_, rfl, ?_⟩
    have n0_ := Aside0.mk (blk_below (g := gb284) (o := .cells #[.int .i64 a0_0, .string a0_1] 36 (0, 0)) (by (with_reducible repeat (first | refine blk_drewN ?_ _ | refine blk_drew ?_ | refine blk_alloc ?_ _)); exact BK284.out) hb)
    have n1_ := Aside0.mk (below_step (by repeat (first | (with_reducible first | exact HB.out | apply below_alloc | apply pw_below_drewN | apply below_drew1 | refine below_set ?_ GE284.out) | exact HB.out)) hb)
    clear BK284
    clear HB
    have BK284 := n0_
    have HB := n1_
    clear n0_ n1_
    (try clear hb)
    (try clear hb2)
    (try clear hk)
    (try clear hi)
    refine hK.out _ _ ⟨(blk_cell BK284.out 0).trans rfl, (blk_cell BK284.out 1).trans rfl⟩ (fun hHeld => ?_)
    clear hK K
    refine norm_ (a' := ?_) ?_ ?_
    rotate_left
    · show Act.put _ (some 9) _ = _
      simp only [Act.put, List.setIfInBounds_toArray, List.set_cons_zero, List.set_cons_succ, i64_w, i32_w]
      rfl
    refine pure_ (i := 7) (N := some 10) (v := ?_) (a' := ?_) #[true, true, true, true, true, true, true, true, false] rfl rfl (any_of HT_.out (by kernel_rfl)) (fun _ _ _ h => h) (Or.inl ⟨by rfl, ?_⟩) ?_ ?_
    rotate_left
    · intro w'
      go_simp
      with_reducible rfl
    rotate_left
    · simp only [Act.put, List.setIfInBounds_toArray, List.set_cons_zero, List.set_cons_succ, i64_w, i32_w]
      rfl
    refine pure_ (i := 8) (N := some 2) (v := ?_) (a' := ?_) #[true, true, true, true, true, true, true, true, true] rfl rfl (any_of HT_.out (by kernel_rfl)) (fun _ _ _ h => h) (Or.inl ⟨by rfl, ?_⟩) ?_ ?_
    rotate_left
    · intro w'
      go_simp
      with_reducible rfl
    rotate_left
    · simp only [Act.put, List.setIfInBounds_toArray, List.set_cons_zero, List.set_cons_succ, i64_w, i32_w]
      rfl
    refine done_ (done_of HT_.out (by kernel_rfl)) ?_
    try go_wp2
    go_ret
    exact ⟨by first | rfl | (simp [errW_none, errW_some] <;> rfl) | (simp [*, errW_none, errW_some] <;> rfl), by repeat (first | (with_reducible first | exact HB.out | apply below_alloc | apply pw_below_drewN | apply below_drew1 | refine below_set ?_ GE284.out) | exact HB.out)⟩
  · rw [if_neg c4] at H
    exact absurd H (by simp)

end Go.Proofs.Ytgihacaegmpggaa.R
/- The plain law of layer 13: which blocks may be; a text as blocks. -/
namespace Go.Proofs.Ytgihacaegmpggaa.Plain
open Go.RowKit Go.Proofs.Ytgihacaegmpggaa Go.Proofs.Ytgihacaegmpggaa.R Go.Proofs.Ytgihacaegmpggaa.Be Go.Proofs.YtgihacaegmpggaaW.PrintWords Go.Proofs.YtgihacaegmpggaaW.PrintLast Go.Proofs.YtgihacaegmpggaaW.PrintMore
set_option linter.unusedVariables false
set_option linter.unusedSimpArgs false

def checkF (t : Int) (b : ByteArray) : Int :=
  if t < 0 then 2 else if 126 < t then 2 else if 16777216 ≤ b.size then 2 else if t = 0 then (Hand.infoF b).2 else if t = 2 then (if 4 ≤ b.size then 0 else 2) else if t = 3 then (if b.size % 18 = 0 then 0 else 2)
  else if t = 5 then (if tracksF b = true then 0 else 2) else if t = 6 then (if imageF b = true then 0 else 2) else 0
theorem flat_last (p : Hand.Inf × Int) : (Hand.flatI p).2.2.2.2.2.2.2.2.2 = p.2 := by
  obtain ⟨⟨_, _, _, _, _, _, _, _, _⟩, _⟩ := p
  rfl
def checkG (t : Int) (b : ByteArray) : Int :=
  if t = 0 then (Hand.infoF b).2 else if t = 2 then (if 4 ≤ b.size then 0 else 2) else if t = 3 then (if b.size % 18 = 0 then 0 else 2)
  else if t = 5 then (if tracksF b = true then 0 else 2) else if t = 6 then (if imageF b = true then 0 else 2) else 0
theorem check_j0 (t : Int) (b : ByteArray) (hs : b.size ≤ 140737488355328) : Ev (fun k => meta_Check.j0 k false t b) (checkG t b) := by
  unfold checkG
  by_cases h0 : t = 0
  · subst h0
    rw [if_pos rfl]
    refine Ev.step (f := fun _ => some (Hand.infoF b).2) (fun k => ?_) (Ev.now _)
    simp only [meta_Check.j0]
    rw [if_neg (by decide), if_pos trivial]
    show some (Hand.flatI (Hand.infoF b)).2.2.2.2.2.2.2.2.2 = _
    rw [flat_last]
  rw [if_neg h0]
  by_cases h2 : t = 2
  · subst h2
    rw [if_pos rfl]
    refine Ev.step (f := fun _ => some (if 4 ≤ b.size then 0 else 2)) (fun k => ?_) (Ev.now _)
    simp only [meta_Check.j0]
    rw [if_neg (by decide), if_neg (by decide), if_pos trivial]
    by_cases h : 4 ≤ b.size
    · rw [if_pos h, if_pos (by omega)]
    · rw [if_neg h, if_neg (by omega)]
  rw [if_neg h2]
  by_cases h3 : t = 3
  · subst h3
    rw [if_pos rfl]
    refine Ev.step (f := fun _ => some (if b.size % 18 = 0 then 0 else 2)) (fun k => ?_) (Ev.now _)
    simp only [meta_Check.j0]
    rw [if_neg (by decide), if_neg (by decide), if_neg (by decide), if_pos trivial]
    by_cases h : b.size % 18 = 0
    · rw [if_pos h, if_pos (by omega)]
    · rw [if_neg h, if_neg (by omega)]
  rw [if_neg h3]
  by_cases h5 : t = 5
  · subst h5
    rw [if_pos rfl]
    refine Ev.step (f := fun k => (meta_tracks.f k b).bind fun q => if q = true then some 0 else some 2) (fun k => ?_) ?_
    · simp only [meta_Check.j0]
      rw [if_neg (by decide), if_neg (by decide), if_neg (by decide), if_neg (by decide), if_pos trivial]
    · refine Ev.bind (tracks_ev b hs) ?_
      cases tracksF b
      · exact Ev.now _
      · exact Ev.now _
  rw [if_neg h5]
  by_cases h6 : t = 6
  · subst h6
    rw [if_pos rfl]
    refine Ev.step (f := fun k => (meta_image.f k b).bind fun q => if q = true then some 0 else some 2) (fun k => ?_) ?_
    · simp only [meta_Check.j0]
      rw [if_neg (by decide), if_neg (by decide), if_neg (by decide), if_neg (by decide), if_neg (by decide), if_pos trivial]
    · refine Ev.bind (image_ev b hs) ?_
      cases imageF b
      · exact Ev.now _
      · exact Ev.now _
  rw [if_neg h6]
  have hj : ∀ q, Ev (fun k => meta_Check.j1 k true q) 0 := fun q => by
    refine Ev.step (f := fun _ => some 0) (fun k => ?_) (Ev.now _)
    simp only [meta_Check.j1]
    cases q <;> rfl
  by_cases h1 : t = 1
  · refine Ev.step (fun k => ?_) (hj (t == 1))
    simp only [meta_Check.j0]
    rw [if_neg (by decide), if_neg h0, if_neg h2, if_neg h3, if_neg h5, if_neg h6, if_pos h1]
  · refine Ev.step (fun k => ?_) (hj (t == 4))
    simp only [meta_Check.j0]
    rw [if_neg (by decide), if_neg h0, if_neg h2, if_neg h3, if_neg h5, if_neg h6, if_neg h1]
theorem check_ev (t : Int) (b : ByteArray) : Ev (fun k => meta_Check.f k t b) (checkF t b) := by
  have hno : Ev (fun k => meta_Check.j0 k true t b) 2 := Ev.step (f := fun _ => some 2) (fun k => by simp only [meta_Check.j0]; rw [if_pos trivial]) (Ev.now _)
  unfold checkF
  by_cases h0 : t < 0
  · rw [if_pos h0]
    exact Ev.congr (fun k => by unfold meta_Check.f; rw [if_pos h0]) hno
  rw [if_neg h0]
  by_cases h1 : 126 < t
  · rw [if_pos h1]
    exact Ev.congr (fun k => by unfold meta_Check.f; rw [if_neg h0, if_pos h1]) hno
  rw [if_neg h1]
  by_cases h2 : 16777216 ≤ b.size
  · rw [if_pos h2]
    exact Ev.congr (fun k => by unfold meta_Check.f; rw [if_neg h0, if_neg h1, decide_eq_true (by omega)]) hno
  rw [if_neg h2]
  exact Ev.congr (fun k => by unfold meta_Check.f; rw [if_neg h0, if_neg h1, decide_eq_false (by omega)]) (check_j0 t b (by omega))
theorem xcheck_j0 (t : Int) (b : ByteArray) (hs : b.size ≤ 140737488355328) : Ev (fun k => lacquerref13_Check.j0 k false t b) (checkG t b) := by
  unfold checkG
  by_cases h0 : t = 0
  · subst h0
    rw [if_pos rfl]
    refine Ev.step (f := fun _ => some (Hand.infoF b).2) (fun k => ?_) (Ev.now _)
    simp only [lacquerref13_Check.j0]
    rw [if_neg (by decide), if_pos trivial]
    show some (Hand.flatI (Hand.infoF b)).2.2.2.2.2.2.2.2.2 = _
    rw [flat_last]
  rw [if_neg h0]
  by_cases h2 : t = 2
  · subst h2
    rw [if_pos rfl]
    refine Ev.step (f := fun _ => some (if 4 ≤ b.size then 0 else 2)) (fun k => ?_) (Ev.now _)
    simp only [lacquerref13_Check.j0]
    rw [if_neg (by decide), if_neg (by decide), if_pos trivial]
    by_cases h : 4 ≤ b.size
    · rw [if_pos h, if_pos (by omega)]
    · rw [if_neg h, if_neg (by omega)]
  rw [if_neg h2]
  by_cases h3 : t = 3
  · subst h3
    rw [if_pos rfl]
    refine Ev.step (f := fun _ => some (if b.size % 18 = 0 then 0 else 2)) (fun k => ?_) (Ev.now _)
    simp only [lacquerref13_Check.j0]
    rw [if_neg (by decide), if_neg (by decide), if_neg (by decide), if_pos trivial]
    by_cases h : b.size % 18 = 0
    · rw [if_pos h, if_pos (by omega)]
    · rw [if_neg h, if_neg (by omega)]
  rw [if_neg h3]
  by_cases h5 : t = 5
  · subst h5
    rw [if_pos rfl]
    refine Ev.step (f := fun k => (lacquerref13_cuesheet.f k b).bind fun q => if q = true then some 0 else some 2) (fun k => ?_) ?_
    · simp only [lacquerref13_Check.j0]
      rw [if_neg (by decide), if_neg (by decide), if_neg (by decide), if_neg (by decide), if_pos trivial]
    · refine Ev.bind (cue_ev b hs) ?_
      cases tracksF b
      · exact Ev.now _
      · exact Ev.now _
  rw [if_neg h5]
  by_cases h6 : t = 6
  · subst h6
    rw [if_pos rfl]
    refine Ev.step (f := fun k => (lacquerref13_picture.f k b).bind fun q => if q = true then some 0 else some 2) (fun k => ?_) ?_
    · simp only [lacquerref13_Check.j0]
      rw [if_neg (by decide), if_neg (by decide), if_neg (by decide), if_neg (by decide), if_neg (by decide), if_pos trivial]
    · refine Ev.bind (pict_ev b hs) ?_
      cases imageF b
      · exact Ev.now _
      · exact Ev.now _
  rw [if_neg h6]
  refine Ev.step (f := fun _ => some 0) (fun k => ?_) (Ev.now _)
  simp only [lacquerref13_Check.j0]
  rw [if_neg (by decide), if_neg h0, if_neg h2, if_neg h3, if_neg h5, if_neg h6]
theorem xcheck_ev (t : Int) (b : ByteArray) : Ev (fun k => lacquerref13_Check.f k t b) (checkF t b) := by
  have hno : Ev (fun k => lacquerref13_Check.j0 k true t b) 2 := Ev.step (f := fun _ => some 2) (fun k => by simp only [lacquerref13_Check.j0]; rw [if_pos trivial]) (Ev.now _)
  unfold checkF
  by_cases h0 : t < 0
  · rw [if_pos h0]
    exact Ev.congr (fun k => by unfold lacquerref13_Check.f; rw [if_pos h0]) hno
  rw [if_neg h0]
  by_cases h1 : 126 < t
  · rw [if_pos h1]
    exact Ev.congr (fun k => by unfold lacquerref13_Check.f; rw [if_neg h0, if_pos h1]) hno
  rw [if_neg h1]
  by_cases h2 : 16777216 ≤ b.size
  · rw [if_pos h2]
    exact Ev.congr (fun k => by unfold lacquerref13_Check.f; rw [if_neg h0, if_neg h1, decide_eq_true (by omega)]) hno
  rw [if_neg h2]
  exact Ev.congr (fun k => by unfold lacquerref13_Check.f; rw [if_neg h0, if_neg h1, decide_eq_false (by omega)]) (xcheck_j0 t b (by omega))
end Go.Proofs.Ytgihacaegmpggaa.Plain
/- The plain law of layer 13: awake; which blocks may be. -/
namespace Go.Proofs.Ytgihacaegmpggaa.Plain
open Go.RowKit Go.Proofs.Ytgihacaegmpggaa Go.Proofs.Ytgihacaegmpggaa.R Go.Proofs.Ytgihacaegmpggaa.Be Go.Proofs.YtgihacaegmpggaaW.PrintWords Go.Proofs.YtgihacaegmpggaaW.PrintLast Go.Proofs.YtgihacaegmpggaaW.PrintMore
set_option linter.unusedVariables false
set_option linter.unusedSimpArgs false

theorem awake_ok : lacquerlaw13_awake.f 60 = some true := by decide +kernel
theorem awake_ev : Ev (fun k => lacquerlaw13_awake.f k) true := Ev.of lacquerlaw13_awake.mono awake_ok
theorem checks_ev (t : Int) (b : ByteArray) : Ev (fun k => lacquerlaw13_MetaChecks.f k t b) true := by
  refine Ev.bind (check_ev t b) (Ev.bind (xcheck_ev t b) ?_)
  exact Ev.congr (fun k => if_pos rfl) (Ev.bind awake_ev (Ev.now _))
theorem Checks_any (t : Int) (b : ByteArray) (w : World) :
    Calls Try.prog 4 #[.agg #[.int .i64 t, .string b]] w fun e w' => e = .returned (.bool true) ∧ Below w.heap.size w w' := by
  obtain ⟨k, hk⟩ := (checks_ev t b).rounds
  exact lacquerlaw13_MetaChecks.calls k t b true w hk
theorem infos_ok (s : ByteArray) (a0 a1 a2 a3 a4 a5 a6 a7 : Int) (a8 : ByteArray) (h : ((-9223372036854775808 ≤ a0 ∧ a0 ≤ 9223372036854775807) ∧ (-9223372036854775808 ≤ a1 ∧ a1 ≤ 9223372036854775807) ∧ (-9223372036854775808 ≤ a2 ∧ a2 ≤ 9223372036854775807) ∧ (-9223372036854775808 ≤ a3 ∧ a3 ≤ 9223372036854775807) ∧ (-9223372036854775808 ≤ a4 ∧ a4 ≤ 9223372036854775807) ∧ (-9223372036854775808 ≤ a7 ∧ a7 ≤ 9223372036854775807)) ∧ a8.size + 18 ≤ 9223372036854775807) :
    Ev (fun k => lacquerlaw13_MetaInfos.f k s a0 a1 a2 a3 a4 a5 a6 a7 a8) true := by
  unfold lacquerlaw13_MetaInfos.f
  have e1 : meta_Info.f s = some (Hand.flatI (Hand.infoF s)) := rfl
  have e2 : lacquerref13_Info.f s = some (Hand.flatI (Hand.infoF s)) := rfl
  have e3 : meta_LayInfo.f a0 a1 a2 a3 a4 a5 a6 a7 a8 = some (Hand.layF (a0, a1, a2, a3, a4, a5, a6, a7, a8)) := if_pos h
  have e4 : lacquerref13_LayInfo.f a0 a1 a2 a3 a4 a5 a6 a7 a8 = some (Hand.layF (a0, a1, a2, a3, a4, a5, a6, a7, a8)) := if_pos h
  simp only [e1, e2, e3, e4, Option.bind_some, beq_self_eq_true, Bool.and_self, if_true]
  exact Ev.bind awake_ev (Ev.now _)
theorem Infos_any (s : ByteArray) (a0 a1 a2 a3 a4 a5 a6 a7 : Int) (a8 : ByteArray) (h : ((-9223372036854775808 ≤ a0 ∧ a0 ≤ 9223372036854775807) ∧ (-9223372036854775808 ≤ a1 ∧ a1 ≤ 9223372036854775807) ∧ (-9223372036854775808 ≤ a2 ∧ a2 ≤ 9223372036854775807) ∧ (-9223372036854775808 ≤ a3 ∧ a3 ≤ 9223372036854775807) ∧ (-9223372036854775808 ≤ a4 ∧ a4 ≤ 9223372036854775807) ∧ (-9223372036854775808 ≤ a7 ∧ a7 ≤ 9223372036854775807)) ∧ a8.size + 18 ≤ 9223372036854775807) (w : World) :
    Calls Try.prog 3 #[.string s, .agg #[.int .i64 a0, .int .i64 a1, .int .i64 a2, .int .i64 a3, .int .i64 a4, .int .i64 a5, .int .i64 a6, .int .i64 a7, .string a8]] w fun e w' => e = .returned (.bool true) ∧ Below w.heap.size w w' := by
  obtain ⟨k, hk⟩ := (infos_ok s a0 a1 a2 a3 a4 a5 a6 a7 a8 h).rounds
  exact lacquerlaw13_MetaInfos.calls k s a0 a1 a2 a3 a4 a5 a6 a7 a8 true w hk
end Go.Proofs.Ytgihacaegmpggaa.Plain
