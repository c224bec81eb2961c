/- Texts of this claim's proof, laid behind each other by a program of ours, without what the proof does not reach: Printed by a program of ours (pp.sh), partly over contracts proved by hand; The plain law of layer 13: which blocks may be; a text as blocks; The plain law of layer 13: awake; which blocks may be; Printed by a program of ours (pp.sh), partly over contracts proved by hand -/
import Derived.Test.YtgihacaegmpggaaBld1
import Derived.Test.YtgihacaegmpggaaBld2
import Derived.Test.YtgihacaegmpggaaBld3
import Derived.Test.YtgihacaegmpggaaBld4
import Derived.Test.YtgihacaegmpggaaBld5
import Derived.Test.YtgihacaegmpggaaBldWApart
import Derived.Test.YtgihacaegmpggaaBldWEqStruct
import Derived.Test.YtgihacaegmpggaaBldWFoot
import Derived.Test.YtgihacaegmpggaaBldWGuard
import Derived.Test.YtgihacaegmpggaaBldWInv
import Derived.Test.YtgihacaegmpggaaBldWKept
import Derived.Test.YtgihacaegmpggaaBldWLast
import Derived.Test.YtgihacaegmpggaaBldWMore
import Derived.Test.YtgihacaegmpggaaBldWN
import Derived.Test.YtgihacaegmpggaaBldWRepsOne
import Derived.Test.YtgihacaegmpggaaBldWShare
import Derived.Test.YtgihacaegmpggaaBldWTab
import Derived.Test.YtgihacaegmpggaaBldWWords
/- Printed by a program of ours (pp.sh), partly over contracts proved by hand. -/
namespace Go.Proofs.Ytgihacaegmpggaa.R
open Go.RowKit Go.Proofs.YtgihacaegmpggaaW.PrintWords Go.Proofs.YtgihacaegmpggaaW.PrintLast Go.Proofs.YtgihacaegmpggaaW.PrintMore
attribute [local go_sem] max2_int min2_int max_two min_two max_three min_three max_four min_four   -- for this text's walks alone
set_option linter.unusedVariables false
set_option linter.unusedSimpArgs false

/-! ### lacquerref13_Check: function 14 -/
def lacquerref13_Check.j0 : Nat → Bool → Int → ByteArray → Option (Int)
  | 0, _, _, _ => none
  | k + 1, x19, x271000, x271001 => if x19 = true then (some 2) else (if x271000 = 0 then ((lacquerref13_Info.f x271001).bind fun bt271 => (some bt271.2.2.2.2.2.2.2.2.2)) else (if x271000 = 2 then (if ((x271001.size : Int) ≥ 4) then (some 0) else (some 2)) else (if x271000 = 3 then (if (((x271001.size : Int) % 18) = 0) then (some 0) else (some 2)) else (if x271000 = 5 then ((lacquerref13_cuesheet.f k x271001).bind fun t282 => (if t282 = true then (some 0) else (some 2))) else (if x271000 = 6 then ((lacquerref13_picture.f k x271001).bind fun t283 => (if t283 = true then (some 0) else (some 2))) else (some 0))))))
def lacquerref13_Check.f (k : Nat) (a0_0 : Int) (a0_1 : ByteArray) : Option (Int) := if a0_0 < 0 then (lacquerref13_Check.j0 k true a0_0 a0_1) else (if a0_0 > 126 then (lacquerref13_Check.j0 k true a0_0 a0_1) else (lacquerref13_Check.j0 k (decide ((a0_1.size : Int) > 16777215)) a0_0 a0_1))
set_option maxHeartbeats 8000000 in
set_option maxRecDepth 100000 in
theorem lacquerref13_Check.calls (k : Nat) (a0_0 : Int) (a0_1 : ByteArray) (r : Int) (w : World) (h : lacquerref13_Check.f k a0_0 a0_1 = some r) :
    Calls Try.prog 14 #[.agg #[.int .i64 a0_0, .string a0_1]] w fun e w' => e = .returned (.int .i64 r) ∧ Below w.heap.size w w' := by
  have hu36 := Try.underlying36
  have hu23 := Try.underlying23
  have HB := Aside0.mk (Below.refl w.heap.size w)
  have H : (if a0_0 < 0 then (lacquerref13_Check.j0 k true a0_0 a0_1) else (if a0_0 > 126 then (lacquerref13_Check.j0 k true a0_0 a0_1) else (lacquerref13_Check.j0 k (decide ((a0_1.size : Int) > 16777215)) a0_0 a0_1))) = some r := h
  clear h
  have HC2 := Aside0.mk H
  clear H
  go_enter Try.func14, Try.ntmps14
  go_upto_region 1 with (first | ((with_reducible refine gate_dst (N := 1) rfl ?_); (try (refine gate_guard (by rfl) ?_; dsimp only)); refine box_event ?hg (N := 1) ?hd (cs := #[.int .i64 a0_0, .string a0_1]) (t := 36) ?hr ?_; (case hd => rfl); (case hg => rfl); (case hr => first | (go_simp; done) | (go_simp; rfl)); intro gb270 hg w3 hbox hb; have n0_ := Aside0.mk (below_step (by repeat (first | (with_reducible first | exact HB.out | apply below_alloc | apply pw_below_drewN | apply below_drew1) | exact HB.out)) hb); have n1_ := Aside0.mk (hbox); have n2_ := Aside0.mk ((by rw [hg]; exact (below_size (by repeat (first | (with_reducible first | exact HB.out | apply below_alloc | apply pw_below_drewN | apply below_drew1) | exact HB.out))) : w.heap.size ≤ gb270)); have n3_ := Aside0.mk ((by rw [hg]; exact (below_size (by repeat (first | (with_reducible first | exact HB.out | apply below_alloc | apply pw_below_drewN | apply below_drew1) | exact HB.out))) : w.heap.size ≤ gb270)); clear HB; have HB := n0_; have BK270 := n1_; have GW270 := n2_; have GE270 := n3_; clear n0_ n1_ n2_ n3_; clear hb hbox hg))
  (try simp only [Act.put, List.setIfInBounds_toArray, List.set_cons_zero, List.set_cons_succ])
  go_cut [19] (fun v19 wc => ∃ (kq : Nat) (x19_1 : Bool), v19 = .bool x19_1 ∧ Aside0 (lacquerref13_Check.j0 kq x19_1 a0_0 a0_1 = some r) ∧ Aside0 (kq ≤ k) ∧ Aside0 (wc.heap[gb270]? = some (.cells #[.int .i64 a0_0, .string a0_1] 36 (0, 0))) ∧ Aside0 (Below w.heap.size w wc))
  case first =>
    have H := HC2.out
    clear HC2
    by_cases c4 : a0_0 < 0
    · rw [if_pos c4] at H
      have c4b0 : decide (a0_0 < 0) = true := decide_eq_true c4
      clear c4
      (first | rw [c4b0] | (simp only [i64_w, i32_w]; rw [c4b0]) | skip)
      have H' := Aside0.mk H
      clear H
      have hcz5_0 : w3.cell? ⟨gb270, 0, none⟩ = some (.int .i64 a0_0) := (blk_cell BK270.out 0).trans rfl
      have hcz5_1 : w3.cell? ⟨gb270, 1, none⟩ = some (.string a0_1) := (blk_cell BK270.out 1).trans rfl
      have hfz5_0 := blk_frozen BK270.out 0
      have hfz5_1 := blk_frozen BK270.out 1
      go_wp2
      go_meet
      case rel => exact ⟨_, (true), (by first | rfl | (simp; done) | (simp [*]; done)), H', ⟨by first | omega | exact Nat.le_refl _⟩, ⟨by (with_reducible repeat (first | refine blk_drewN ?_ _ | refine blk_drew ?_ | refine blk_alloc ?_ _)); exact BK270.out⟩, ⟨by repeat (first | (with_reducible first | exact HB.out | apply below_alloc | apply pw_below_drewN | apply below_drew1 | refine below_set ?_ GE270.out) | exact HB.out)⟩⟩
    · rw [if_neg c4] at H
      have c4b0 : decide (a0_0 < 0) = false := decide_eq_false c4
      clear c4
      (first | rw [c4b0] | (simp only [i64_w, i32_w]; rw [c4b0]) | skip)
      by_cases c6 : a0_0 > 126
      · rw [if_pos c6] at H
        have c6b0 : decide (126 < a0_0) = true := decide_eq_true c6
        clear c6
        have H' := Aside0.mk H
        clear H
        have hcz7_0 : w3.cell? ⟨gb270, 0, none⟩ = some (.int .i64 a0_0) := (blk_cell BK270.out 0).trans rfl
        have hcz7_1 : w3.cell? ⟨gb270, 1, none⟩ = some (.string a0_1) := (blk_cell BK270.out 1).trans rfl
        have hfz7_0 := blk_frozen BK270.out 0
        have hfz7_1 := blk_frozen BK270.out 1
        go_wp2
        go_meet
        case rel => exact ⟨_, (true), (by first | rfl | (simp; done) | (simp [*]; done)), H', ⟨by first | omega | exact Nat.le_refl _⟩, ⟨by (with_reducible repeat (first | refine blk_drewN ?_ _ | refine blk_drew ?_ | refine blk_alloc ?_ _)); exact BK270.out⟩, ⟨by repeat (first | (with_reducible first | exact HB.out | apply below_alloc | apply pw_below_drewN | apply below_drew1 | refine below_set ?_ GE270.out) | exact HB.out)⟩⟩
      · rw [if_neg c6] at H
        have c6b0 : decide (126 < a0_0) = false := decide_eq_false c6
        clear c6
        have H' := Aside0.mk H
        clear H
        have hcz8_0 : w3.cell? ⟨gb270, 0, none⟩ = some (.int .i64 a0_0) := (blk_cell BK270.out 0).trans rfl
        have hcz8_1 : w3.cell? ⟨gb270, 1, none⟩ = some (.string a0_1) := (blk_cell BK270.out 1).trans rfl
        have hfz8_0 := blk_frozen BK270.out 0
        have hfz8_1 := blk_frozen BK270.out 1
        go_wp2
        go_meet
        case rel => exact ⟨_, (decide ((a0_1.size : Int) > 16777215)), (by first | rfl | (simp; done) | (simp [*]; done)), H', ⟨by first | omega | exact Nat.le_refl _⟩, ⟨by (with_reducible repeat (first | refine blk_drewN ?_ _ | refine blk_drew ?_ | refine blk_alloc ?_ _)); exact BK270.out⟩, ⟨by repeat (first | (with_reducible first | exact HB.out | apply below_alloc | apply pw_below_drewN | apply below_drew1 | refine below_set ?_ GE270.out) | exact HB.out)⟩⟩
  case rest =>
    clear HC2
    try clear c1
    try clear p2
    try clear c4
    try clear c4b0
    try clear c6
    try clear c6b0
    try clear hcz5_0
    try clear hcz5_1
    try clear hcz7_0
    try clear hcz7_1
    try clear hcz8_0
    try clear hcz8_1
    try clear hfz5_0
    try clear hfz5_1
    try clear hfz7_0
    try clear hfz7_1
    try clear hfz8_0
    try clear hfz8_1
    obtain ⟨kq, x19_1, rfl, HA, HJ1, BK270, HB⟩ := hcut
    cases kq with
    | zero => exact absurd HA.out (by simp [lacquerref13_Check.j0])
    | succ kj1 =>
      have H := HA.out
      clear HA
      simp only [lacquerref13_Check.j0] at H
      by_cases c9 : x19_1 = true
      · subst c9
        have H1 : (some 2) = some r := by rw [if_pos rfl] at H; exact H
        clear H
        have H := H1
        clear H1
        obtain rfl := Option.some.inj H
        go_wp2
        go_ret
        exact ⟨by first | rfl | (simp [errW_none, errW_some] <;> rfl) | (simp [*, errW_none, errW_some] <;> rfl), by repeat (first | (with_reducible first | exact HB.out | apply below_alloc | apply pw_below_drewN | apply below_drew1 | refine below_set ?_ GE270.out) | exact HB.out)⟩
      · replace c9 := Bool.eq_false_iff.mpr c9
        subst c9
        have H1 : (if a0_0 = 0 then ((lacquerref13_Info.f a0_1).bind fun bt271 => (some bt271.2.2.2.2.2.2.2.2.2)) else (if a0_0 = 2 then (if ((a0_1.size : Int) ≥ 4) then (some 0) else (some 2)) else (if a0_0 = 3 then (if (((a0_1.size : Int) % 18) = 0) then (some 0) else (some 2)) else (if a0_0 = 5 then ((lacquerref13_cuesheet.f kj1 a0_1).bind fun t282 => (if t282 = true then (some 0) else (some 2))) else (if a0_0 = 6 then ((lacquerref13_picture.f kj1 a0_1).bind fun t283 => (if t283 = true then (some 0) else (some 2))) else (some 0)))))) = some r := by rw [if_neg (show ¬ (false = true) by decide)] at H; exact H
        clear H
        have H := H1
        clear H1
        by_cases c10 : a0_0 = 0
        · rw [if_pos c10] at H
          have c10b0 : (a0_0 == 0) = true := beq_iff_eq.mpr c10
          have c10b1 : (a0_0 != 0) = false := bne_eq_false_iff_eq.mpr c10
          clear c10
          replace H := Option.bind_eq_some_iff.mp H
          obtain ⟨⟨t271, t272, t273, t274, t275, t276, t277, t278, t279, t280⟩, A110, H⟩ := H
          replace H : (some t280) = some r := H
          have A11 := Aside0.mk A110
          clear A110
          obtain rfl := Option.some.inj H
          have hcz12_0 : wc.cell? ⟨gb270, 0, none⟩ = some (.int .i64 a0_0) := (blk_cell BK270.out 0).trans rfl
          have hcz12_1 : wc.cell? ⟨gb270, 1, none⟩ = some (.string a0_1) := (blk_cell BK270.out 1).trans rfl
          have hfz12_0 := blk_frozen BK270.out 0
          have hfz12_1 := blk_frozen BK270.out 1
          go_wp2_with (first | ((with_reducible refine gate_callee (f := 9) rfl ?_); refine goesL_ (some 27) rfl rfl Try.func9 (by kernel_rfl) rfl #[.string a0_1] rfl (by (try simp only [List.map_toArray, List.map_cons, List.map_nil]); first | done | rfl | (simp only [List.length_drop, List.length_take]; rfl)) ?_; (with_reducible refine (lacquerref13_Info.calls a0_1 t271 t272 t273 t274 t275 t276 t277 t278 t279 t280 _ A11.out).mono ?_); rintro e w13 ⟨rfl, hb⟩; refine ⟨_, rfl, ?_⟩; have n0_ := Aside0.mk (blk_below (g := gb270) (o := .cells #[.int .i64 a0_0, .string a0_1] 36 (0, 0)) (by (with_reducible repeat (first | refine blk_drewN ?_ _ | refine blk_drew ?_ | refine blk_alloc ?_ _)); exact BK270.out) hb); have n1_ := Aside0.mk (below_step (by repeat (first | (with_reducible first | exact HB.out | apply below_alloc | apply pw_below_drewN | apply below_drew1 | refine below_set ?_ GE270.out) | exact HB.out)) hb); clear BK270; clear HB; have BK270 := n0_; have HB := n1_; clear n0_ n1_; (try clear hb); (try clear hb2); (try clear hk); (try clear hi)) | ((with_reducible refine gate_dst (N := 4) rfl ?_); (try (refine gate_guard (by rfl) ?_; dsimp only)); refine box_event ?hg (N := 4) ?hd (cs := #[.int .i64 0, .int .i64 0, .int .i64 0, .int .i64 0, .int .i64 0, .int .i64 0, .int .i64 0, .int .i64 0, .string (⟨#[]⟩ : ByteArray)]) (t := 23) ?hr ?_; (case hd => rfl); (case hg => rfl); (case hr => first | (go_simp; done) | (go_simp; rfl)); intro gb281 hg w14 hbox hb; have n0_ := Aside0.mk (blk_below (g := gb270) (o := .cells #[.int .i64 a0_0, .string a0_1] 36 (0, 0)) (by (with_reducible repeat (first | refine blk_drewN ?_ _ | refine blk_drew ?_ | refine blk_alloc ?_ _)); exact BK270.out) hb); have n1_ := Aside0.mk (below_step (by repeat (first | (with_reducible first | exact HB.out | apply below_alloc | apply pw_below_drewN | apply below_drew1 | refine below_set ?_ GE270.out) | exact HB.out)) hb); have n2_ := Aside0.mk (hbox); have n3_ := Aside0.mk ((by rw [hg]; exact (below_size (by repeat (first | (with_reducible first | exact HB.out | apply below_alloc | apply pw_below_drewN | apply below_drew1 | refine below_set ?_ GE270.out) | exact HB.out))) : w.heap.size ≤ gb281)); have n4_ := Aside0.mk ((by rw [hg]; exact (below_size (by repeat (first | (with_reducible first | exact HB.out | apply below_alloc | apply pw_below_drewN | apply below_drew1 | refine below_set ?_ GE270.out) | exact HB.out))) : w.heap.size ≤ gb281)); have n5_ := Aside0.mk ((by rw [hg]; exact Nat.ne_of_lt (blk_lt (g := gb270) (o := .cells #[.int .i64 a0_0, .string a0_1] 36 (0, 0)) (by (with_reducible repeat (first | refine blk_drewN ?_ _ | refine blk_drew ?_ | refine blk_alloc ?_ _)); exact BK270.out)) : gb270 ≠ gb281)); have n6_ := Aside0.mk ((by rw [hg]; exact Nat.ne_of_gt (blk_lt (g := gb270) (o := .cells #[.int .i64 a0_0, .string a0_1] 36 (0, 0)) (by (with_reducible repeat (first | refine blk_drewN ?_ _ | refine blk_drew ?_ | refine blk_alloc ?_ _)); exact BK270.out)) : gb281 ≠ gb270)); clear BK270; clear HB; have BK270 := n0_; have HB := n1_; have BK281 := n2_; have GW281 := n3_; have GE281 := n4_; have NB270_281 := n5_; have NB281_270 := n6_; clear n0_ n1_ n2_ n3_ n4_ n5_ n6_; clear hb hbox hg; have hnb15 := NB281_270.out; have hnc15 := NB270_281.out; have hcz16_0 : w14.cell? ⟨gb281, 0, none⟩ = some (.int .i64 0) := (blk_cell BK281.out 0).trans rfl; have hcz16_1 : w14.cell? ⟨gb281, 1, none⟩ = some (.int .i64 0) := (blk_cell BK281.out 1).trans rfl; have hcz16_2 : w14.cell? ⟨gb281, 2, none⟩ = some (.int .i64 0) := (blk_cell BK281.out 2).trans rfl; have hcz16_3 : w14.cell? ⟨gb281, 3, none⟩ = some (.int .i64 0) := (blk_cell BK281.out 3).trans rfl; have hcz16_4 : w14.cell? ⟨gb281, 4, none⟩ = some (.int .i64 0) := (blk_cell BK281.out 4).trans rfl; have hcz16_5 : w14.cell? ⟨gb281, 5, none⟩ = some (.int .i64 0) := (blk_cell BK281.out 5).trans rfl; have hcz16_6 : w14.cell? ⟨gb281, 6, none⟩ = some (.int .i64 0) := (blk_cell BK281.out 6).trans rfl; have hcz16_7 : w14.cell? ⟨gb281, 7, none⟩ = some (.int .i64 0) := (blk_cell BK281.out 7).trans rfl; have hcz16_8 : w14.cell? ⟨gb281, 8, none⟩ = some (.string (⟨#[]⟩ : ByteArray)) := (blk_cell BK281.out 8).trans rfl; have hfz16_0 := blk_frozen BK281.out 0; have hfz16_1 := blk_frozen BK281.out 1; have hfz16_2 := blk_frozen BK281.out 2; have hfz16_3 := blk_frozen BK281.out 3; have hfz16_4 := blk_frozen BK281.out 4; have hfz16_5 := blk_frozen BK281.out 5; have hfz16_6 := blk_frozen BK281.out 6; have hfz16_7 := blk_frozen BK281.out 7; have hfz16_8 := blk_frozen BK281.out 8))
          go_ret
          exact ⟨by first | rfl | (simp [errW_none, errW_some] <;> rfl) | (simp [*, errW_none, errW_some] <;> rfl), by repeat (first | (with_reducible first | exact HB.out | apply below_alloc | apply pw_below_drewN | apply below_drew1 | refine below_set ?_ GE270.out | refine below_set ?_ GE281.out) | exact HB.out)⟩
        · rw [if_neg c10] at H
          have c10b0 : (a0_0 == 0) = false := beq_eq_false_iff_ne.mpr c10
          have c10b1 : (a0_0 != 0) = true := bne_iff_ne.mpr c10
          by_cases c17 : a0_0 = 2
          · rw [if_pos c17] at H
            have c17b0 : (a0_0 == 2) = true := beq_iff_eq.mpr c17
            have c17b1 : (a0_0 != 2) = false := bne_eq_false_iff_eq.mpr c17
            clear c17
            by_cases c18 : ((a0_1.size : Int) ≥ 4)
            · rw [if_pos c18] at H
              have c18b0 : decide (4 ≤ (a0_1.size : Int)) = true := decide_eq_true c18
              have c18b1 : decide (4 ≤ a0_1.size) = true := decide_eq_true (by omega)
              clear c18
              obtain rfl := Option.some.inj H
              have hcz19_0 : wc.cell? ⟨gb270, 0, none⟩ = some (.int .i64 a0_0) := (blk_cell BK270.out 0).trans rfl
              have hcz19_1 : wc.cell? ⟨gb270, 1, none⟩ = some (.string a0_1) := (blk_cell BK270.out 1).trans rfl
              have hfz19_0 := blk_frozen BK270.out 0
              have hfz19_1 := blk_frozen BK270.out 1
              go_wp2
              go_ret
              exact ⟨by first | rfl | (simp [errW_none, errW_some] <;> rfl) | (simp [*, errW_none, errW_some] <;> rfl), by repeat (first | (with_reducible first | exact HB.out | apply below_alloc | apply pw_below_drewN | apply below_drew1 | refine below_set ?_ GE270.out) | exact HB.out)⟩
            · rw [if_neg c18] at H
              have c18b0 : decide (4 ≤ (a0_1.size : Int)) = false := decide_eq_false c18
              have c18b1 : decide (4 ≤ a0_1.size) = false := decide_eq_false (by omega)
              clear c18
              obtain rfl := Option.some.inj H
              have hcz20_0 : wc.cell? ⟨gb270, 0, none⟩ = some (.int .i64 a0_0) := (blk_cell BK270.out 0).trans rfl
              have hcz20_1 : wc.cell? ⟨gb270, 1, none⟩ = some (.string a0_1) := (blk_cell BK270.out 1).trans rfl
              have hfz20_0 := blk_frozen BK270.out 0
              have hfz20_1 := blk_frozen BK270.out 1
              go_wp2
              go_ret
              exact ⟨by first | rfl | (simp [errW_none, errW_some] <;> rfl) | (simp [*, errW_none, errW_some] <;> rfl), by repeat (first | (with_reducible first | exact HB.out | apply below_alloc | apply pw_below_drewN | apply below_drew1 | refine below_set ?_ GE270.out) | exact HB.out)⟩
          · rw [if_neg c17] at H
            have c17b0 : (a0_0 == 2) = false := beq_eq_false_iff_ne.mpr c17
            have c17b1 : (a0_0 != 2) = true := bne_iff_ne.mpr c17
            by_cases c21 : a0_0 = 3
            · rw [if_pos c21] at H
              have c21b0 : (a0_0 == 3) = true := beq_iff_eq.mpr c21
              have c21b1 : (a0_0 != 3) = false := bne_eq_false_iff_eq.mpr c21
              clear c21
              by_cases c22 : (((a0_1.size : Int) % 18) = 0)
              · rw [if_pos c22] at H
                have c22b0 : (((a0_1.size : Int) % 18) == 0) = true := beq_iff_eq.mpr c22
                have c22b1 : (((a0_1.size : Int) % 18) != 0) = false := bne_eq_false_iff_eq.mpr c22
                clear c22
                obtain rfl := Option.some.inj H
                have hcz23_0 : wc.cell? ⟨gb270, 0, none⟩ = some (.int .i64 a0_0) := (blk_cell BK270.out 0).trans rfl
                have hcz23_1 : wc.cell? ⟨gb270, 1, none⟩ = some (.string a0_1) := (blk_cell BK270.out 1).trans rfl
                have hfz23_0 := blk_frozen BK270.out 0
                have hfz23_1 := blk_frozen BK270.out 1
                go_wp2
                go_ret
                exact ⟨by first | rfl | (simp [errW_none, errW_some] <;> rfl) | (simp [*, errW_none, errW_some] <;> rfl), by repeat (first | (with_reducible first | exact HB.out | apply below_alloc | apply pw_below_drewN | apply below_drew1 | refine below_set ?_ GE270.out) | exact HB.out)⟩
              · rw [if_neg c22] at H
                have c22b0 : (((a0_1.size : Int) % 18) == 0) = false := beq_eq_false_iff_ne.mpr c22
                have c22b1 : (((a0_1.size : Int) % 18) != 0) = true := bne_iff_ne.mpr c22
                obtain rfl := Option.some.inj H
                have hcz24_0 : wc.cell? ⟨gb270, 0, none⟩ = some (.int .i64 a0_0) := (blk_cell BK270.out 0).trans rfl
                have hcz24_1 : wc.cell? ⟨gb270, 1, none⟩ = some (.string a0_1) := (blk_cell BK270.out 1).trans rfl
                have hfz24_0 := blk_frozen BK270.out 0
                have hfz24_1 := blk_frozen BK270.out 1
                go_wp2
                go_ret
                exact ⟨by first | rfl | (simp [errW_none, errW_some] <;> rfl) | (simp [*, errW_none, errW_some] <;> rfl), by repeat (first | (with_reducible first | exact HB.out | apply below_alloc | apply pw_below_drewN | apply below_drew1 | refine below_set ?_ GE270.out) | exact HB.out)⟩
            · rw [if_neg c21] at H
              have c21b0 : (a0_0 == 3) = false := beq_eq_false_iff_ne.mpr c21
              have c21b1 : (a0_0 != 3) = true := bne_iff_ne.mpr c21
              by_cases c25 : a0_0 = 5
              · rw [if_pos c25] at H
                have c25b0 : (a0_0 == 5) = true := beq_iff_eq.mpr c25
                have c25b1 : (a0_0 != 5) = false := bne_eq_false_iff_eq.mpr c25
                clear c25
                replace H := Option.bind_eq_some_iff.mp H
                obtain ⟨t282, A260, H⟩ := H
                replace H : (if t282 = true then (some 0) else (some 2)) = some r := H
                have A26 := Aside0.mk A260
                clear A260
                by_cases c27 : t282 = true
                · subst c27
                  have H1 : (some 0) = some r := by rw [if_pos rfl] at H; exact H
                  clear H
                  have H := H1
                  clear H1
                  obtain rfl := Option.some.inj H
                  have hcz28_0 : wc.cell? ⟨gb270, 0, none⟩ = some (.int .i64 a0_0) := (blk_cell BK270.out 0).trans rfl
                  have hcz28_1 : wc.cell? ⟨gb270, 1, none⟩ = some (.string a0_1) := (blk_cell BK270.out 1).trans rfl
                  have hfz28_0 := blk_frozen BK270.out 0
                  have hfz28_1 := blk_frozen BK270.out 1
                  go_wp2_with (first | ((with_reducible refine gate_callee (f := 32) rfl ?_); refine goesL_ (some 48) rfl rfl Try.func32 (by kernel_rfl) rfl #[.string a0_1] rfl (by (try simp only [List.map_toArray, List.map_cons, List.map_nil]); first | done | rfl | (simp only [List.length_drop, List.length_take]; rfl)) ?_; (with_reducible refine (lacquerref13_cuesheet.calls kj1 a0_1 true _ A26.out).mono ?_); rintro e w' ⟨rfl, ⟨nd, rfl⟩⟩; refine ⟨_, rfl, ?_⟩))
                  go_ret
                  exact ⟨by first | rfl | (simp [errW_none, errW_some] <;> rfl) | (simp [*, errW_none, errW_some] <;> rfl), by repeat (first | (with_reducible first | exact HB.out | apply below_alloc | apply pw_below_drewN | apply below_drew1 | refine below_set ?_ GE270.out) | exact HB.out)⟩
                · replace c27 := Bool.eq_false_iff.mpr c27
                  subst c27
                  have H1 : (some 2) = some r := by rw [if_neg (show ¬ (false = true) by decide)] at H; exact H
                  clear H
                  have H := H1
                  clear H1
                  obtain rfl := Option.some.inj H
                  have hcz29_0 : wc.cell? ⟨gb270, 0, none⟩ = some (.int .i64 a0_0) := (blk_cell BK270.out 0).trans rfl
                  have hcz29_1 : wc.cell? ⟨gb270, 1, none⟩ = some (.string a0_1) := (blk_cell BK270.out 1).trans rfl
                  have hfz29_0 := blk_frozen BK270.out 0
                  have hfz29_1 := blk_frozen BK270.out 1
                  go_wp2_with (first | ((with_reducible refine gate_callee (f := 32) rfl ?_); refine goesL_ (some 48) rfl rfl Try.func32 (by kernel_rfl) rfl #[.string a0_1] rfl (by (try simp only [List.map_toArray, List.map_cons, List.map_nil]); first | done | rfl | (simp only [List.length_drop, List.length_take]; rfl)) ?_; (with_reducible refine (lacquerref13_cuesheet.calls kj1 a0_1 false _ A26.out).mono ?_); rintro e w' ⟨rfl, ⟨nd, rfl⟩⟩; refine ⟨_, rfl, ?_⟩))
                  go_ret
                  exact ⟨by first | rfl | (simp [errW_none, errW_some] <;> rfl) | (simp [*, errW_none, errW_some] <;> rfl), by repeat (first | (with_reducible first | exact HB.out | apply below_alloc | apply pw_below_drewN | apply below_drew1 | refine below_set ?_ GE270.out) | exact HB.out)⟩
              · rw [if_neg c25] at H
                have c25b0 : (a0_0 == 5) = false := beq_eq_false_iff_ne.mpr c25
                have c25b1 : (a0_0 != 5) = true := bne_iff_ne.mpr c25
                by_cases c30 : a0_0 = 6
                · rw [if_pos c30] at H
                  have c30b0 : (a0_0 == 6) = true := beq_iff_eq.mpr c30
                  have c30b1 : (a0_0 != 6) = false := bne_eq_false_iff_eq.mpr c30
                  clear c30
                  replace H := Option.bind_eq_some_iff.mp H
                  obtain ⟨t283, A310, H⟩ := H
                  replace H : (if t283 = true then (some 0) else (some 2)) = some r := H
                  have A31 := Aside0.mk A310
                  clear A310
                  by_cases c32 : t283 = true
                  · subst c32
                    have H1 : (some 0) = some r := by rw [if_pos rfl] at H; exact H
                    clear H
                    have H := H1
                    clear H1
                    obtain rfl := Option.some.inj H
                    have hcz33_0 : wc.cell? ⟨gb270, 0, none⟩ = some (.int .i64 a0_0) := (blk_cell BK270.out 0).trans rfl
                    have hcz33_1 : wc.cell? ⟨gb270, 1, none⟩ = some (.string a0_1) := (blk_cell BK270.out 1).trans rfl
                    have hfz33_0 := blk_frozen BK270.out 0
                    have hfz33_1 := blk_frozen BK270.out 1
                    go_wp2_with (first | ((with_reducible refine gate_callee (f := 33) rfl ?_); refine goesL_ (some 53) rfl rfl Try.func33 (by kernel_rfl) rfl #[.string a0_1] rfl (by (try simp only [List.map_toArray, List.map_cons, List.map_nil]); first | done | rfl | (simp only [List.length_drop, List.length_take]; rfl)) ?_; (with_reducible refine (lacquerref13_picture.calls kj1 a0_1 true _ A31.out).mono ?_); rintro e w' ⟨rfl, ⟨nd, rfl⟩⟩; refine ⟨_, rfl, ?_⟩))
                    go_ret
                    exact ⟨by first | rfl | (simp [errW_none, errW_some] <;> rfl) | (simp [*, errW_none, errW_some] <;> rfl), by repeat (first | (with_reducible first | exact HB.out | apply below_alloc | apply pw_below_drewN | apply below_drew1 | refine below_set ?_ GE270.out) | exact HB.out)⟩
                  · replace c32 := Bool.eq_false_iff.mpr c32
                    subst c32
                    have H1 : (some 2) = some r := by rw [if_neg (show ¬ (false = true) by decide)] at H; exact H
                    clear H
                    have H := H1
                    clear H1
                    obtain rfl := Option.some.inj H
                    have hcz34_0 : wc.cell? ⟨gb270, 0, none⟩ = some (.int .i64 a0_0) := (blk_cell BK270.out 0).trans rfl
                    have hcz34_1 : wc.cell? ⟨gb270, 1, none⟩ = some (.string a0_1) := (blk_cell BK270.out 1).trans rfl
                    have hfz34_0 := blk_frozen BK270.out 0
                    have hfz34_1 := blk_frozen BK270.out 1
                    go_wp2_with (first | ((with_reducible refine gate_callee (f := 33) rfl ?_); refine goesL_ (some 53) rfl rfl Try.func33 (by kernel_rfl) rfl #[.string a0_1] rfl (by (try simp only [List.map_toArray, List.map_cons, List.map_nil]); first | done | rfl | (simp only [List.length_drop, List.length_take]; rfl)) ?_; (with_reducible refine (lacquerref13_picture.calls kj1 a0_1 false _ A31.out).mono ?_); rintro e w' ⟨rfl, ⟨nd, rfl⟩⟩; refine ⟨_, rfl, ?_⟩))
                    go_ret
                    exact ⟨by first | rfl | (simp [errW_none, errW_some] <;> rfl) | (simp [*, errW_none, errW_some] <;> rfl), by repeat (first | (with_reducible first | exact HB.out | apply below_alloc | apply pw_below_drewN | apply below_drew1 | refine below_set ?_ GE270.out) | exact HB.out)⟩
                · rw [if_neg c30] at H
                  have c30b0 : (a0_0 == 6) = false := beq_eq_false_iff_ne.mpr c30
                  have c30b1 : (a0_0 != 6) = true := bne_iff_ne.mpr c30
                  obtain rfl := Option.some.inj H
                  have hcz35_0 : wc.cell? ⟨gb270, 0, none⟩ = some (.int .i64 a0_0) := (blk_cell BK270.out 0).trans rfl
                  have hcz35_1 : wc.cell? ⟨gb270, 1, none⟩ = some (.string a0_1) := (blk_cell BK270.out 1).trans rfl
                  have hfz35_0 := blk_frozen BK270.out 0
                  have hfz35_1 := blk_frozen BK270.out 1
                  go_wp2
                  go_ret
                  exact ⟨by first | rfl | (simp [errW_none, errW_some] <;> rfl) | (simp [*, errW_none, errW_some] <;> rfl), by repeat (first | (with_reducible first | exact HB.out | apply below_alloc | apply pw_below_drewN | apply below_drew1 | refine below_set ?_ GE270.out) | exact HB.out)⟩

/-! ### lacquerlaw13_MetaChecks: function 4 -/

end Go.Proofs.Ytgihacaegmpggaa.R

/- The plain law of layer 13: which blocks may be; a text as blocks. -/
namespace Go.Proofs.Ytgihacaegmpggaa.Plain
open Go.RowKit Go.Proofs.Ytgihacaegmpggaa Go.Proofs.Ytgihacaegmpggaa.R Go.Proofs.Ytgihacaegmpggaa.Be Go.Proofs.YtgihacaegmpggaaW.PrintWords Go.Proofs.YtgihacaegmpggaaW.PrintLast Go.Proofs.YtgihacaegmpggaaW.PrintMore
set_option linter.unusedVariables false
set_option linter.unusedSimpArgs false

def checkF (t : Int) (b : ByteArray) : Int :=
  if t < 0 then 2 else if 126 < t then 2 else if 16777216 ≤ b.size then 2 else if t = 0 then (Hand.infoF b).2 else if t = 2 then (if 4 ≤ b.size then 0 else 2) else if t = 3 then (if b.size % 18 = 0 then 0 else 2)
  else if t = 5 then (if tracksF b = true then 0 else 2) else if t = 6 then (if imageF b = true then 0 else 2) else 0
theorem flat_last (p : Hand.Inf × Int) : (Hand.flatI p).2.2.2.2.2.2.2.2.2 = p.2 := by
  obtain ⟨⟨_, _, _, _, _, _, _, _, _⟩, _⟩ := p
  rfl
def checkG (t : Int) (b : ByteArray) : Int :=
  if t = 0 then (Hand.infoF b).2 else if t = 2 then (if 4 ≤ b.size then 0 else 2) else if t = 3 then (if b.size % 18 = 0 then 0 else 2)
  else if t = 5 then (if tracksF b = true then 0 else 2) else if t = 6 then (if imageF b = true then 0 else 2) else 0
theorem check_j0 (t : Int) (b : ByteArray) (hs : b.size ≤ 140737488355328) : Ev (fun k => meta_Check.j0 k false t b) (checkG t b) := by
  unfold checkG
  by_cases h0 : t = 0
  · subst h0
    rw [if_pos rfl]
    refine Ev.step (f := fun _ => some (Hand.infoF b).2) (fun k => ?_) (Ev.now _)
    simp only [meta_Check.j0]
    rw [if_neg (by decide), if_pos trivial]
    show some (Hand.flatI (Hand.infoF b)).2.2.2.2.2.2.2.2.2 = _
    rw [flat_last]
  rw [if_neg h0]
  by_cases h2 : t = 2
  · subst h2
    rw [if_pos rfl]
    refine Ev.step (f := fun _ => some (if 4 ≤ b.size then 0 else 2)) (fun k => ?_) (Ev.now _)
    simp only [meta_Check.j0]
    rw [if_neg (by decide), if_neg (by decide), if_pos trivial]
    by_cases h : 4 ≤ b.size
    · rw [if_pos h, if_pos (by omega)]
    · rw [if_neg h, if_neg (by omega)]
  rw [if_neg h2]
  by_cases h3 : t = 3
  · subst h3
    rw [if_pos rfl]
    refine Ev.step (f := fun _ => some (if b.size % 18 = 0 then 0 else 2)) (fun k => ?_) (Ev.now _)
    simp only [meta_Check.j0]
    rw [if_neg (by decide), if_neg (by decide), if_neg (by decide), if_pos trivial]
    by_cases h : b.size % 18 = 0
    · rw [if_pos h, if_pos (by omega)]
    · rw [if_neg h, if_neg (by omega)]
  rw [if_neg h3]
  by_cases h5 : t = 5
  · subst h5
    rw [if_pos rfl]
    refine Ev.step (f := fun k => (meta_tracks.f k b).bind fun q => if q = true then some 0 else some 2) (fun k => ?_) ?_
    · simp only [meta_Check.j0]
      rw [if_neg (by decide), if_neg (by decide), if_neg (by decide), if_neg (by decide), if_pos trivial]
    · refine Ev.bind (tracks_ev b hs) ?_
      cases tracksF b
      · exact Ev.now _
      · exact Ev.now _
  rw [if_neg h5]
  by_cases h6 : t = 6
  · subst h6
    rw [if_pos rfl]
    refine Ev.step (f := fun k => (meta_image.f k b).bind fun q => if q = true then some 0 else some 2) (fun k => ?_) ?_
    · simp only [meta_Check.j0]
      rw [if_neg (by decide), if_neg (by decide), if_neg (by decide), if_neg (by decide), if_neg (by decide), if_pos trivial]
    · refine Ev.bind (image_ev b hs) ?_
      cases imageF b
      · exact Ev.now _
      · exact Ev.now _
  rw [if_neg h6]
  have hj : ∀ q, Ev (fun k => meta_Check.j1 k true q) 0 := fun q => by
    refine Ev.step (f := fun _ => some 0) (fun k => ?_) (Ev.now _)
    simp only [meta_Check.j1]
    cases q <;> rfl
  by_cases h1 : t = 1
  · refine Ev.step (fun k => ?_) (hj (t == 1))
    simp only [meta_Check.j0]
    rw [if_neg (by decide), if_neg h0, if_neg h2, if_neg h3, if_neg h5, if_neg h6, if_pos h1]
  · refine Ev.step (fun k => ?_) (hj (t == 4))
    simp only [meta_Check.j0]
    rw [if_neg (by decide), if_neg h0, if_neg h2, if_neg h3, if_neg h5, if_neg h6, if_neg h1]
theorem check_ev (t : Int) (b : ByteArray) : Ev (fun k => meta_Check.f k t b) (checkF t b) := by
  have hno : Ev (fun k => meta_Check.j0 k true t b) 2 := Ev.step (f := fun _ => some 2) (fun k => by simp only [meta_Check.j0]; rw [if_pos trivial]) (Ev.now _)
  unfold checkF
  by_cases h0 : t < 0
  · rw [if_pos h0]
    exact Ev.congr (fun k => by unfold meta_Check.f; rw [if_pos h0]) hno
  rw [if_neg h0]
  by_cases h1 : 126 < t
  · rw [if_pos h1]
    exact Ev.congr (fun k => by unfold meta_Check.f; rw [if_neg h0, if_pos h1]) hno
  rw [if_neg h1]
  by_cases h2 : 16777216 ≤ b.size
  · rw [if_pos h2]
    exact Ev.congr (fun k => by unfold meta_Check.f; rw [if_neg h0, if_neg h1, decide_eq_true (by omega)]) hno
  rw [if_neg h2]
  exact Ev.congr (fun k => by unfold meta_Check.f; rw [if_neg h0, if_neg h1, decide_eq_false (by omega)]) (check_j0 t b (by omega))
theorem xcheck_j0 (t : Int) (b : ByteArray) (hs : b.size ≤ 140737488355328) : Ev (fun k => lacquerref13_Check.j0 k false t b) (checkG t b) := by
  unfold checkG
  by_cases h0 : t = 0
  · subst h0
    rw [if_pos rfl]
    refine Ev.step (f := fun _ => some (Hand.infoF b).2) (fun k => ?_) (Ev.now _)
    simp only [lacquerref13_Check.j0]
    rw [if_neg (by decide), if_pos trivial]
    show some (Hand.flatI (Hand.infoF b)).2.2.2.2.2.2.2.2.2 = _
    rw [flat_last]
  rw [if_neg h0]
  by_cases h2 : t = 2
  · subst h2
    rw [if_pos rfl]
    refine Ev.step (f := fun _ => some (if 4 ≤ b.size then 0 else 2)) (fun k => ?_) (Ev.now _)
    simp only [lacquerref13_Check.j0]
    rw [if_neg (by decide), if_neg (by decide), if_pos trivial]
    by_cases h : 4 ≤ b.size
    · rw [if_pos h, if_pos (by omega)]
    · rw [if_neg h, if_neg (by omega)]
  rw [if_neg h2]
  by_cases h3 : t = 3
  · subst h3
    rw [if_pos rfl]
    refine Ev.step (f := fun _ => some (if b.size % 18 = 0 then 0 else 2)) (fun k => ?_) (Ev.now _)
    simp only [lacquerref13_Check.j0]
    rw [if_neg (by decide), if_neg (by decide), if_neg (by decide), if_pos trivial]
    by_cases h : b.size % 18 = 0
    · rw [if_pos h, if_pos (by omega)]
    · rw [if_neg h, if_neg (by omega)]
  rw [if_neg h3]
  by_cases h5 : t = 5
  · subst h5
    rw [if_pos rfl]
    refine Ev.step (f := fun k => (lacquerref13_cuesheet.f k b).bind fun q => if q = true then some 0 else some 2) (fun k => ?_) ?_
    · simp only [lacquerref13_Check.j0]
      rw [if_neg (by decide), if_neg (by decide), if_neg (by decide), if_neg (by decide), if_pos trivial]
    · refine Ev.bind (cue_ev b hs) ?_
      cases tracksF b
      · exact Ev.now _
      · exact Ev.now _
  rw [if_neg h5]
  by_cases h6 : t = 6
  · subst h6
    rw [if_pos rfl]
    refine Ev.step (f := fun k => (lacquerref13_picture.f k b).bind fun q => if q = true then some 0 else some 2) (fun k => ?_) ?_
    · simp only [lacquerref13_Check.j0]
      rw [if_neg (by decide), if_neg (by decide), if_neg (by decide), if_neg (by decide), if_neg (by decide), if_pos trivial]
    · refine Ev.bind (pict_ev b hs) ?_
      cases imageF b
      · exact Ev.now _
      · exact Ev.now _
  rw [if_neg h6]
  refine Ev.step (f := fun _ => some 0) (fun k => ?_) (Ev.now _)
  simp only [lacquerref13_Check.j0]
  rw [if_neg (by decide), if_neg h0, if_neg h2, if_neg h3, if_neg h5, if_neg h6]
theorem xcheck_ev (t : Int) (b : ByteArray) : Ev (fun k => lacquerref13_Check.f k t b) (checkF t b) := by
  have hno : Ev (fun k => lacquerref13_Check.j0 k true t b) 2 := Ev.step (f := fun _ => some 2) (fun k => by simp only [lacquerref13_Check.j0]; rw [if_pos trivial]) (Ev.now _)
  unfold checkF
  by_cases h0 : t < 0
  · rw [if_pos h0]
    exact Ev.congr (fun k => by unfold lacquerref13_Check.f; rw [if_pos h0]) hno
  rw [if_neg h0]
  by_cases h1 : 126 < t
  · rw [if_pos h1]
    exact Ev.congr (fun k => by unfold lacquerref13_Check.f; rw [if_neg h0, if_pos h1]) hno
  rw [if_neg h1]
  by_cases h2 : 16777216 ≤ b.size
  · rw [if_pos h2]
    exact Ev.congr (fun k => by unfold lacquerref13_Check.f; rw [if_neg h0, if_neg h1, decide_eq_true (by omega)]) hno
  rw [if_neg h2]
  exact Ev.congr (fun k => by unfold lacquerref13_Check.f; rw [if_neg h0, if_neg h1, decide_eq_false (by omega)]) (xcheck_j0 t b (by omega))
end Go.Proofs.Ytgihacaegmpggaa.Plain

/- The plain law of layer 13: awake; which blocks may be. -/
namespace Go.Proofs.Ytgihacaegmpggaa.Plain
open Go.RowKit Go.Proofs.Ytgihacaegmpggaa Go.Proofs.Ytgihacaegmpggaa.R Go.Proofs.Ytgihacaegmpggaa.Be Go.Proofs.YtgihacaegmpggaaW.PrintWords Go.Proofs.YtgihacaegmpggaaW.PrintLast Go.Proofs.YtgihacaegmpggaaW.PrintMore
set_option linter.unusedVariables false
set_option linter.unusedSimpArgs false

theorem awake_ok : lacquerlaw13_awake.f 60 = some true := by decide +kernel
theorem awake_ev : Ev (fun k => lacquerlaw13_awake.f k) true := Ev.of lacquerlaw13_awake.mono awake_ok
end Go.Proofs.Ytgihacaegmpggaa.Plain

/- Printed by a program of ours (pp.sh), partly over contracts proved by hand. -/
namespace Go.Proofs.Ytgihacaegmpggaa.R
open Go.RowKit Go.Proofs.YtgihacaegmpggaaW.PrintWords Go.Proofs.YtgihacaegmpggaaW.PrintLast Go.Proofs.YtgihacaegmpggaaW.PrintMore
attribute [local go_sem] max2_int min2_int max_two min_two max_three min_three max_four min_four   -- for this text's walks alone
set_option linter.unusedVariables false
set_option linter.unusedSimpArgs false

/-! ### lacquerref13_Parse: function 16 -/
mutual
def lacquerref13_Parse.l0 : Nat → ByteArray → List (S36) → Int → Int → Option ((List (S36)) × Int × Int)
  | 0, _, _, _, _ => none
  | k + 1, x0, x5, x6, x7 => if (x0.size : Int) < (wrap64 (x6 + 4)) then (some (([] : List (S36)), 0, 2)) else (if 0 ≤ x6 then (if x6 < (x0.size : Int) then (if 0 ≤ (wrap64 (x6 + 1)) then (if (wrap64 (x6 + 1)) ≤ (wrap64 (x6 + 4)) then (if (wrap64 (x6 + 4)) ≤ (x0.size : Int) then ((lacquerref02_FromBe.f k (x0.extract ((wrap64 (x6 + 1)) : Int).toNat ((wrap64 (x6 + 4)) : Int).toNat)).bind fun t288 => (if t288 > (wrap64 ((x0.size : Int) - (wrap64 (x6 + 4)))) then (some (([] : List (S36)), 0, 2)) else (if 0 ≤ (wrap64 (x6 + 4)) then (if (wrap64 (x6 + 4)) ≤ (wrap64 ((wrap64 (x6 + 4)) + t288)) then (if (wrap64 ((wrap64 (x6 + 4)) + t288)) ≤ (x0.size : Int) then (if (Go.bits .and .i64 (wrap64 (bt x0 x6)) 127) = 4 then (lacquerref13_Parse.j1 k x0 x5 (wrap64 ((wrap64 (x6 + 4)) + t288)) (wrap64 (x7 + 1)) (wrap64 (bt x0 x6)) (Go.bits .and .i64 (wrap64 (bt x0 x6)) 127) (x0.extract ((wrap64 (x6 + 4)) : Int).toNat ((wrap64 ((wrap64 (x6 + 4)) + t288)) : Int).toNat)) else (lacquerref13_Parse.j1 k x0 x5 (wrap64 ((wrap64 (x6 + 4)) + t288)) x7 (wrap64 (bt x0 x6)) (Go.bits .and .i64 (wrap64 (bt x0 x6)) 127) (x0.extract ((wrap64 (x6 + 4)) : Int).toNat ((wrap64 ((wrap64 (x6 + 4)) + t288)) : Int).toNat))) else (none)) else (none)) else (none)))) else (none)) else (none)) else (none)) else (none)) else (none))
def lacquerref13_Parse.j1 : Nat → ByteArray → List (S36) → Int → Int → Int → Int → ByteArray → Option ((List (S36)) × Int × Int)
  | 0, _, _, _, _, _, _, _ => none
  | k + 1, x0, x5, x6, x7, x8, x290000, x290001 => if ((x290000 == 0) != ((x5.length : Int) == 0)) = true then (lacquerref13_Parse.j2 k x0 x5 x6 x7 x8 true x290000 x290001) else (if x290000 = 127 then (lacquerref13_Parse.j2 k x0 x5 x6 x7 x8 true x290000 x290001) else (lacquerref13_Parse.j2 k x0 x5 x6 x7 x8 (decide (x7 > 1)) x290000 x290001))
def lacquerref13_Parse.j2 : Nat → ByteArray → List (S36) → Int → Int → Int → Bool → Int → ByteArray → Option ((List (S36)) × Int × Int)
  | 0, _, _, _, _, _, _, _, _ => none
  | k + 1, x0, x5, x6, x7, x8, x68, x290000, x290001 => if x68 = true then (some (([] : List (S36)), 0, 2)) else (if (x5.length : Int) = 1024 then (some (([] : List (S36)), 0, 5)) else ((lacquerref13_Check.f k x290000 x290001).bind fun t290 => (if t290 = 0 then (if x5.length < 5864062014805 then ((some (x5 ++ [(⟨x290000, x290001⟩ : S36)] : List (S36))).bind fun y291 => (if x8 > 127 then (some (y291, x6, 0)) else (lacquerref13_Parse.l0 k x0 y291 x6 x7))) else (none)) else (some (([] : List (S36)), 0, t290)))))
end
def lacquerref13_Parse.f (k : Nat) (a0 : ByteArray) : Option ((List (S36)) × Int × Int) := lacquerref13_Parse.l0 k a0 ([] : List (S36)) 0 0
set_option maxHeartbeats 8000000 in
set_option maxRecDepth 100000 in
theorem lacquerref13_Parse.calls (k : Nat) (a0 : ByteArray) (r1 : List (S36)) (r2 : Int) (r3 : Int) (w : World) (h : lacquerref13_Parse.f k a0 = some (r1, r2, r3)) :
    Calls Try.prog 16 #[.string a0] w fun e w' => ∃ v0_ : Value, e = .returned (.tuple #[v0_, .int .i64 r2, .int .i64 r3]) ∧ Kd.R k36 36 w' w.heap.size (fun _ => True) v0_ r1 ∧ Below w.heap.size w w' := by
  have hu36 := Try.underlying36
  have HB := Aside0.mk (Below.refl w.heap.size w)
  have H : (lacquerref13_Parse.l0 k a0 ([] : List (S36)) 0 0) = some (r1, r2, r3) := h
  clear h
  have H' := Aside0.mk H
  clear H
  go_enter Try.func16, Try.ntmps16
  go_wp2
  repeat (go_quiet (fail); try go_wp2)
  go_loopg [5, 6, 7] k (fun kq v5 v6 v7 w' => ∃ (x5_1 : List (S36)) (x6_1 : Int) (x7_1 : Int), v6 = .int .i64 x6_1 ∧ v7 = .int .i64 x7_1 ∧ Aside0 (lacquerref13_Parse.l0 kq a0 x5_1 x6_1 x7_1 = some (r1, r2, r3)) ∧ Aside0 (kq ≤ k) ∧ Aside0 (Kd.R k36 36 w' w.heap.size (fun _ => True) v5 x5_1) ∧ Aside0 (Below w.heap.size w w'))
  case atStart => exact ⟨(([] : List (S36))), (0), (0), (by first | rfl | (simp; done) | (simp [*]; done)), (by first | rfl | (simp; done) | (simp [*]; done)), H', ⟨Nat.le_refl _⟩, ⟨by first | exact Kd.R_nil _ _ _ _ _ | exact Kd.N_nil _ _ _ _ _ | exact Kd.V_nil _ _ _ _ _ | exact Kd.Q_nil _ _ _ _ _ | exact Kd.S_nil _ _ _ _ _⟩, ⟨by repeat (first | (with_reducible first | exact HB.out | apply below_alloc | apply pw_below_drewN | apply below_drew1) | exact HB.out)⟩⟩
  case round =>
    clear H'
    try clear c1
    obtain ⟨x5_1, x6_1, x7_1, rfl, rfl, HA, HK1, HO_5, HB⟩ := hrel
    cases gk with
    | zero => exact absurd HA.out (by simp [lacquerref13_Parse.l0])
    | succ k1 =>
      have H := HA.out
      clear HA
      simp only [lacquerref13_Parse.l0] at H
      by_cases c2 : (a0.size : Int) < (wrap64 (x6_1 + 4))
      · rw [if_pos c2] at H
        have c2b0 : decide ((a0.size : Int) < (wrap64 (x6_1 + 4))) = true := decide_eq_true c2
        clear c2
        simp only [Option.some.injEq, Prod.mk.injEq] at H
        obtain ⟨rfl, rfl, rfl⟩ := H
        go_wp2
        repeat (go_quiet (fail); try go_wp2)
        go_ret3
        exact ⟨_, by first | rfl | (simp [errW_none, errW_some] <;> rfl) | (simp [*, errW_none, errW_some] <;> rfl), by first | exact Kd.R_nil _ _ _ _ _ | exact Kd.N_nil _ _ _ _ _ | exact Kd.V_nil _ _ _ _ _ | exact Kd.Q_nil _ _ _ _ _ | exact Kd.S_nil _ _ _ _ _, by repeat (first | (with_reducible first | exact HB.out | apply below_alloc | apply pw_below_drewN | apply below_drew1) | exact HB.out)⟩
      · rw [if_neg c2] at H
        have c2b0 : decide ((a0.size : Int) < (wrap64 (x6_1 + 4))) = false := decide_eq_false c2
        clear c2
        by_cases c3 : 0 ≤ x6_1
        · rw [if_pos c3] at H
          have c3b0 : decide (0 ≤ x6_1) = true := decide_eq_true c3
          clear c3
          by_cases c4 : x6_1 < (a0.size : Int)
          · rw [if_pos c4] at H
            have c4b0 : decide (x6_1 < (a0.size : Int)) = true := decide_eq_true c4
            clear c4
            obtain ⟨ji6, hji6⟩ : ∃ j_ : Int, (wrap64 (x6_1 + 1)) = j_ := ⟨_, rfl⟩
            replace H : (if 0 ≤ (ji6) then (if (ji6) ≤ (wrap64 (x6_1 + 4)) then (if (wrap64 (x6_1 + 4)) ≤ (a0.size : Int) then ((lacquerref02_FromBe.f k1 (a0.extract ((ji6) : Int).toNat ((wrap64 (x6_1 + 4)) : Int).toNat)).bind fun t288 => (if t288 > (wrap64 ((a0.size : Int) - (wrap64 (x6_1 + 4)))) then (some (([] : List (S36)), 0, 2)) else (if 0 ≤ (wrap64 (x6_1 + 4)) then (if (wrap64 (x6_1 + 4)) ≤ (wrap64 ((wrap64 (x6_1 + 4)) + t288)) then (if (wrap64 ((wrap64 (x6_1 + 4)) + t288)) ≤ (a0.size : Int) then (if (Go.bits .and .i64 (wrap64 (bt a0 x6_1)) 127) = 4 then (lacquerref13_Parse.j1 k1 a0 x5_1 (wrap64 ((wrap64 (x6_1 + 4)) + t288)) (wrap64 (x7_1 + 1)) (wrap64 (bt a0 x6_1)) (Go.bits .and .i64 (wrap64 (bt a0 x6_1)) 127) (a0.extract ((wrap64 (x6_1 + 4)) : Int).toNat ((wrap64 ((wrap64 (x6_1 + 4)) + t288)) : Int).toNat)) else (lacquerref13_Parse.j1 k1 a0 x5_1 (wrap64 ((wrap64 (x6_1 + 4)) + t288)) x7_1 (wrap64 (bt a0 x6_1)) (Go.bits .and .i64 (wrap64 (bt a0 x6_1)) 127) (a0.extract ((wrap64 (x6_1 + 4)) : Int).toNat ((wrap64 ((wrap64 (x6_1 + 4)) + t288)) : Int).toNat))) else (none)) else (none)) else (none)))) else (none)) else (none)) else (none)) = some (r1, r2, r3) := by first | (rw [hji6] at H; exact H) | (simp only [hji6] at H ⊢; exact H)
            have hji6w : (IntKind.i64.wrap (x6_1 + 1)) = ji6 := (i64_w _).trans hji6
            by_cases c7 : 0 ≤ (ji6)
            · rw [if_pos c7] at H
              have c7b0 := eq_true c7
              have c7b1 : decide (0 ≤ (ji6)) = true := decide_eq_true c7
              clear c7
              by_cases c8 : (ji6) ≤ (wrap64 (x6_1 + 4))
              · rw [if_pos c8] at H
                have c8b0 := eq_true c8
                have c8b1 : decide ((ji6) ≤ (wrap64 (x6_1 + 4))) = true := decide_eq_true c8
                by_cases c9 : (wrap64 (x6_1 + 4)) ≤ (a0.size : Int)
                · rw [if_pos c9] at H
                  have c9b0 := eq_true c9
                  have c9b1 : decide ((wrap64 (x6_1 + 4)) ≤ (a0.size : Int)) = true := decide_eq_true c9
                  replace H := Option.bind_eq_some_iff.mp H
                  obtain ⟨t288, A100, H⟩ := H
                  replace H : (if t288 > (wrap64 ((a0.size : Int) - (wrap64 (x6_1 + 4)))) then (some (([] : List (S36)), 0, 2)) else (if 0 ≤ (wrap64 (x6_1 + 4)) then (if (wrap64 (x6_1 + 4)) ≤ (wrap64 ((wrap64 (x6_1 + 4)) + t288)) then (if (wrap64 ((wrap64 (x6_1 + 4)) + t288)) ≤ (a0.size : Int) then (if (Go.bits .and .i64 (wrap64 (bt a0 x6_1)) 127) = 4 then (lacquerref13_Parse.j1 k1 a0 x5_1 (wrap64 ((wrap64 (x6_1 + 4)) + t288)) (wrap64 (x7_1 + 1)) (wrap64 (bt a0 x6_1)) (Go.bits .and .i64 (wrap64 (bt a0 x6_1)) 127) (a0.extract ((wrap64 (x6_1 + 4)) : Int).toNat ((wrap64 ((wrap64 (x6_1 + 4)) + t288)) : Int).toNat)) else (lacquerref13_Parse.j1 k1 a0 x5_1 (wrap64 ((wrap64 (x6_1 + 4)) + t288)) x7_1 (wrap64 (bt a0 x6_1)) (Go.bits .and .i64 (wrap64 (bt a0 x6_1)) 127) (a0.extract ((wrap64 (x6_1 + 4)) : Int).toNat ((wrap64 ((wrap64 (x6_1 + 4)) + t288)) : Int).toNat))) else (none)) else (none)) else (none))) = some (r1, r2, r3) := H
                  have A10 := Aside0.mk A100
                  clear A100
                  by_cases c11 : t288 > (wrap64 ((a0.size : Int) - (wrap64 (x6_1 + 4))))
                  · rw [if_pos c11] at H
                    have c11b0 : decide ((wrap64 ((a0.size : Int) - (wrap64 (x6_1 + 4)))) < t288) = true := decide_eq_true c11
                    clear c11
                    simp only [Option.some.injEq, Prod.mk.injEq] at H
                    obtain ⟨rfl, rfl, rfl⟩ := H
                    have p5 : 0 ≤ (x6_1 : Int) := of_decide_eq_true (by first | (with_reducible assumption) | assumption)
                    have q5 : x6_1 < (a0.size : Int) := of_decide_eq_true (by first | (with_reducible assumption) | assumption)
                    have hx5 := bt_at a0 x6_1
                    replace p5 := eq_true p5
                    replace q5 := eq_true q5
                    go_wp2_with (first | (go_at_call 35; (with_reducible refine (lacquerref02_FromBe.calls k1 (a0.extract ((ji6) : Int).toNat ((wrap64 (x6_1 + 4)) : Int).toNat) t288 _ A10.out).mono ?_); rintro e w' ⟨rfl, ⟨nd, rfl⟩⟩; (try first | exact ⟨rfl, _, World.drewN_drewN _ _ _⟩ | exact ⟨rfl, _, Eq.trans (World.drewN_drewN _ _ _) (congrArg (World.drewN _) (Nat.add_assoc _ _ _))⟩)))
                    repeat (go_quiet (first | (go_at_call 35; (with_reducible refine (lacquerref02_FromBe.calls k1 (a0.extract ((ji6) : Int).toNat ((wrap64 (x6_1 + 4)) : Int).toNat) t288 _ A10.out).mono ?_); rintro e w' ⟨rfl, ⟨nd, rfl⟩⟩; (try first | exact ⟨rfl, _, World.drewN_drewN _ _ _⟩ | exact ⟨rfl, _, Eq.trans (World.drewN_drewN _ _ _) (congrArg (World.drewN _) (Nat.add_assoc _ _ _))⟩))); try go_wp2_with (first | (go_at_call 35; (with_reducible refine (lacquerref02_FromBe.calls k1 (a0.extract ((ji6) : Int).toNat ((wrap64 (x6_1 + 4)) : Int).toNat) t288 _ A10.out).mono ?_); rintro e w' ⟨rfl, ⟨nd, rfl⟩⟩; (try first | exact ⟨rfl, _, World.drewN_drewN _ _ _⟩ | exact ⟨rfl, _, Eq.trans (World.drewN_drewN _ _ _) (congrArg (World.drewN _) (Nat.add_assoc _ _ _))⟩))))
                    go_ret3
                    exact ⟨_, by first | rfl | (simp [errW_none, errW_some] <;> rfl) | (simp only [← hji6]; first | rfl | (simp [errW_none, errW_some] <;> rfl)) | (simp [*, errW_none, errW_some] <;> rfl), by first | exact Kd.R_nil _ _ _ _ _ | exact Kd.N_nil _ _ _ _ _ | exact Kd.V_nil _ _ _ _ _ | exact Kd.Q_nil _ _ _ _ _ | exact Kd.S_nil _ _ _ _ _, by repeat (first | (with_reducible first | exact HB.out | apply below_alloc | apply pw_below_drewN | apply below_drew1) | exact HB.out)⟩
                  · rw [if_neg c11] at H
                    have c11b0 : decide ((wrap64 ((a0.size : Int) - (wrap64 (x6_1 + 4)))) < t288) = false := decide_eq_false c11
                    clear c11
                    obtain ⟨ji12, hji12⟩ : ∃ j_ : Int, (wrap64 (x6_1 + 4)) = j_ := ⟨_, rfl⟩
                    replace H : (if 0 ≤ (ji12) then (if (ji12) ≤ (wrap64 ((ji12) + t288)) then (if (wrap64 ((ji12) + t288)) ≤ (a0.size : Int) then (if (Go.bits .and .i64 (wrap64 (bt a0 x6_1)) 127) = 4 then (lacquerref13_Parse.j1 k1 a0 x5_1 (wrap64 ((ji12) + t288)) (wrap64 (x7_1 + 1)) (wrap64 (bt a0 x6_1)) (Go.bits .and .i64 (wrap64 (bt a0 x6_1)) 127) (a0.extract ((ji12) : Int).toNat ((wrap64 ((ji12) + t288)) : Int).toNat)) else (lacquerref13_Parse.j1 k1 a0 x5_1 (wrap64 ((ji12) + t288)) x7_1 (wrap64 (bt a0 x6_1)) (Go.bits .and .i64 (wrap64 (bt a0 x6_1)) 127) (a0.extract ((ji12) : Int).toNat ((wrap64 ((ji12) + t288)) : Int).toNat))) else (none)) else (none)) else (none)) = some (r1, r2, r3) := by first | (rw [hji12] at H; exact H) | (simp only [hji12] at H ⊢; exact H)
                    (try rw [hji12] at c2b0)
                    (try rw [hji12] at c8b0)
                    (try rw [hji12] at c8b1)
                    (try rw [hji12] at c8)
                    (try rw [hji12] at c9b0)
                    (try rw [hji12] at c9b1)
                    (try rw [hji12] at c9)
                    (try rw [hji12] at c11b0)
                    (try rw [hji12] at A10)
                    have hji12w : (IntKind.i64.wrap (x6_1 + 4)) = ji12 := (i64_w _).trans hji12
                    by_cases c13 : 0 ≤ (ji12)
                    · rw [if_pos c13] at H
                      have c13b0 := eq_true c13
                      have c13b1 : decide (0 ≤ (ji12)) = true := decide_eq_true c13
                      clear c13
                      by_cases c14 : (ji12) ≤ (wrap64 ((ji12) + t288))
                      · rw [if_pos c14] at H
                        have c14b0 := eq_true c14
                        have c14b1 : decide ((ji12) ≤ (wrap64 ((ji12) + t288))) = true := decide_eq_true c14
                        by_cases c15 : (wrap64 ((ji12) + t288)) ≤ (a0.size : Int)
                        · rw [if_pos c15] at H
                          have c15b0 := eq_true c15
                          have c15b1 : decide ((wrap64 ((ji12) + t288)) ≤ (a0.size : Int)) = true := decide_eq_true c15
                          have HC16 := Aside0.mk H
                          clear H
                          have p5 : 0 ≤ (x6_1 : Int) := of_decide_eq_true (by first | (with_reducible assumption) | assumption)
                          have q5 : x6_1 < (a0.size : Int) := of_decide_eq_true (by first | (with_reducible assumption) | assumption)
                          have hx5 := bt_at a0 x6_1
                          replace p5 := eq_true p5
                          replace q5 := eq_true q5
                          go_upto_if 50 with (first | (go_at_call 35; (with_reducible refine (lacquerref02_FromBe.calls k1 (a0.extract ((ji6) : Int).toNat ((ji12) : Int).toNat) t288 _ A10.out).mono ?_); rintro e w' ⟨rfl, ⟨nd, rfl⟩⟩; (try first | exact ⟨rfl, _, World.drewN_drewN _ _ _⟩ | exact ⟨rfl, _, Eq.trans (World.drewN_drewN _ _ _) (congrArg (World.drewN _) (Nat.add_assoc _ _ _))⟩)) | ((with_reducible refine gate_dst (N := 10) rfl ?_); refine box_event ?hg (N := 10) ?hd (cs := #[.int .i64 0, .string (⟨#[]⟩ : ByteArray)]) (t := 36) ?hr ?_; (case hd => rfl); (case hg => rfl); (case hr => first | (go_simp; done) | (go_simp; rfl)); intro gb289 hg w17 hbox hb; have n0_ := Aside0.mk (Kd.R_below (Kd.R_elderB (by (with_reducible repeat (first | apply Kd.R_alloc | apply Kd.R_drewN | apply Kd.R_drew)); exact HO_5.out) gb289 (Nat.le_of_eq hg.symm)) hb); have n1_ := Aside0.mk (below_step (by repeat (first | (with_reducible first | exact HB.out | apply below_alloc | apply pw_below_drewN | apply below_drew1) | exact HB.out)) hb); have n2_ := Aside0.mk (hbox); have n3_ := Aside0.mk ((by rw [hg]; exact (below_size (by repeat (first | (with_reducible first | exact HB.out | apply below_alloc | apply pw_below_drewN | apply below_drew1) | exact HB.out))) : w.heap.size ≤ gb289)); have n4_ := Aside0.mk ((by rw [hg]; exact (below_size (by repeat (first | (with_reducible first | exact HB.out | apply below_alloc | apply pw_below_drewN | apply below_drew1) | exact HB.out))) : w.heap.size ≤ gb289)); clear HO_5; clear HB; have HO_5 := n0_; have HB := n1_; have BK289 := n2_; have GW289 := n3_; have GE289 := n4_; clear n0_ n1_ n2_ n3_ n4_; clear hb hbox hg; have hcz18_0 : w17.cell? ⟨gb289, 0, none⟩ = some (.int .i64 0) := (blk_cell BK289.out 0).trans rfl; have hcz18_1 : w17.cell? ⟨gb289, 1, none⟩ = some (.string (⟨#[]⟩ : ByteArray)) := (blk_cell BK289.out 1).trans rfl; have hfz18_0 := blk_frozen BK289.out 0; have hfz18_1 := blk_frozen BK289.out 1))
                          repeat (go_quiet (first | (go_at_call 35; (with_reducible refine (lacquerref02_FromBe.calls k1 (a0.extract ((ji6) : Int).toNat ((ji12) : Int).toNat) t288 _ A10.out).mono ?_); rintro e w' ⟨rfl, ⟨nd, rfl⟩⟩; (try first | exact ⟨rfl, _, World.drewN_drewN _ _ _⟩ | exact ⟨rfl, _, Eq.trans (World.drewN_drewN _ _ _) (congrArg (World.drewN _) (Nat.add_assoc _ _ _))⟩)) | ((with_reducible refine gate_dst (N := 10) rfl ?_); refine box_event ?hg (N := 10) ?hd (cs := #[.int .i64 0, .string (⟨#[]⟩ : ByteArray)]) (t := 36) ?hr ?_; (case hd => rfl); (case hg => rfl); (case hr => first | (go_simp; done) | (go_simp; rfl)); intro gb289 hg w17 hbox hb; have n0_ := Aside0.mk (Kd.R_below (Kd.R_elderB (by (with_reducible repeat (first | apply Kd.R_alloc | apply Kd.R_drewN | apply Kd.R_drew)); exact HO_5.out) gb289 (Nat.le_of_eq hg.symm)) hb); have n1_ := Aside0.mk (below_step (by repeat (first | (with_reducible first | exact HB.out | apply below_alloc | apply pw_below_drewN | apply below_drew1) | exact HB.out)) hb); have n2_ := Aside0.mk (hbox); have n3_ := Aside0.mk ((by rw [hg]; exact (below_size (by repeat (first | (with_reducible first | exact HB.out | apply below_alloc | apply pw_below_drewN | apply below_drew1) | exact HB.out))) : w.heap.size ≤ gb289)); have n4_ := Aside0.mk ((by rw [hg]; exact (below_size (by repeat (first | (with_reducible first | exact HB.out | apply below_alloc | apply pw_below_drewN | apply below_drew1) | exact HB.out))) : w.heap.size ≤ gb289)); clear HO_5; clear HB; have HO_5 := n0_; have HB := n1_; have BK289 := n2_; have GW289 := n3_; have GE289 := n4_; clear n0_ n1_ n2_ n3_ n4_; clear hb hbox hg; have hcz18_0 : w17.cell? ⟨gb289, 0, none⟩ = some (.int .i64 0) := (blk_cell BK289.out 0).trans rfl; have hcz18_1 : w17.cell? ⟨gb289, 1, none⟩ = some (.string (⟨#[]⟩ : ByteArray)) := (blk_cell BK289.out 1).trans rfl; have hfz18_0 := blk_frozen BK289.out 0; have hfz18_1 := blk_frozen BK289.out 1)); go_upto_if 50 with (first | (go_at_call 35; (with_reducible refine (lacquerref02_FromBe.calls k1 (a0.extract ((ji6) : Int).toNat ((ji12) : Int).toNat) t288 _ A10.out).mono ?_); rintro e w' ⟨rfl, ⟨nd, rfl⟩⟩; (try first | exact ⟨rfl, _, World.drewN_drewN _ _ _⟩ | exact ⟨rfl, _, Eq.trans (World.drewN_drewN _ _ _) (congrArg (World.drewN _) (Nat.add_assoc _ _ _))⟩)) | ((with_reducible refine gate_dst (N := 10) rfl ?_); refine box_event ?hg (N := 10) ?hd (cs := #[.int .i64 0, .string (⟨#[]⟩ : ByteArray)]) (t := 36) ?hr ?_; (case hd => rfl); (case hg => rfl); (case hr => first | (go_simp; done) | (go_simp; rfl)); intro gb289 hg w17 hbox hb; have n0_ := Aside0.mk (Kd.R_below (Kd.R_elderB (by (with_reducible repeat (first | apply Kd.R_alloc | apply Kd.R_drewN | apply Kd.R_drew)); exact HO_5.out) gb289 (Nat.le_of_eq hg.symm)) hb); have n1_ := Aside0.mk (below_step (by repeat (first | (with_reducible first | exact HB.out | apply below_alloc | apply pw_below_drewN | apply below_drew1) | exact HB.out)) hb); have n2_ := Aside0.mk (hbox); have n3_ := Aside0.mk ((by rw [hg]; exact (below_size (by repeat (first | (with_reducible first | exact HB.out | apply below_alloc | apply pw_below_drewN | apply below_drew1) | exact HB.out))) : w.heap.size ≤ gb289)); have n4_ := Aside0.mk ((by rw [hg]; exact (below_size (by repeat (first | (with_reducible first | exact HB.out | apply below_alloc | apply pw_below_drewN | apply below_drew1) | exact HB.out))) : w.heap.size ≤ gb289)); clear HO_5; clear HB; have HO_5 := n0_; have HB := n1_; have BK289 := n2_; have GW289 := n3_; have GE289 := n4_; clear n0_ n1_ n2_ n3_ n4_; clear hb hbox hg; have hcz18_0 : w17.cell? ⟨gb289, 0, none⟩ = some (.int .i64 0) := (blk_cell BK289.out 0).trans rfl; have hcz18_1 : w17.cell? ⟨gb289, 1, none⟩ = some (.string (⟨#[]⟩ : ByteArray)) := (blk_cell BK289.out 1).trans rfl; have hfz18_0 := blk_frozen BK289.out 0; have hfz18_1 := blk_frozen BK289.out 1)))
                          (try simp only [Act.put, List.setIfInBounds_toArray, List.set_cons_zero, List.set_cons_succ])
                          go_cut [7] (fun v7 wc => ∃ (kq : Nat) (x7_15 : Int), v7 = .int .i64 x7_15 ∧ Aside0 (lacquerref13_Parse.j1 kq a0 x5_1 (wrap64 ((ji12) + t288)) x7_15 (wrap64 (bt a0 x6_1)) (Go.bits .and .i64 (wrap64 (bt a0 x6_1)) 127) (a0.extract ((ji12) : Int).toNat ((wrap64 ((ji12) + t288)) : Int).toNat) = some (r1, r2, r3)) ∧ Aside0 (kq ≤ k1) ∧ Aside0 (Kd.R k36 36 wc w.heap.size (fun k_ => k_ ≠ gb289) u5 x5_1) ∧ Aside0 (wc.heap[gb289]? = some (.cells #[.int .i64 (Go.bits .and .i64 (wrap64 (bt a0 x6_1)) 127), .string (a0.extract ((ji12) : Int).toNat ((wrap64 ((ji12) + t288)) : Int).toNat)] 36 (0, 0))) ∧ Aside0 (Below w.heap.size w wc))
                          case first =>
                            have H := HC16.out
                            clear HC16
                            by_cases c19 : (Go.bits .and .i64 (wrap64 (bt a0 x6_1)) 127) = 4
                            · rw [if_pos c19] at H
                              have c19b0 : ((Go.bits .and .i64 (wrap64 (bt a0 x6_1)) 127) == 4) = true := beq_iff_eq.mpr c19
                              have c19b1 : ((Go.bits .and .i64 (wrap64 (bt a0 x6_1)) 127) != 4) = false := bne_eq_false_iff_eq.mpr c19
                              clear c19
                              (first | rw [c19b0] | (simp only [i64_w, i32_w]; rw [c19b0]) | skip)
                              have H' := Aside0.mk H
                              clear H
                              go_wp2
                              repeat (go_quiet (fail); try go_wp2)
                              go_meet
                              case rel => exact ⟨_, (wrap64 (x7_1 + 1)), (by first | rfl | (simp; done) | (simp [*]; done)), H', ⟨by have := HK1.out; first | omega | exact Nat.le_refl _⟩, ⟨by (with_reducible repeat (first | apply Kd.R_alloc | apply Kd.R_drewN | apply Kd.R_drew)); exact Kd.R_mono (Kd.R_far (p := ⟨gb289, 1, none⟩) (Kd.R_far (p := ⟨gb289, 0, none⟩) (Kd.R_mono HO_5.out (fun k_ hk => (⟨hk, hk.2⟩ : _ ∧ k_ ≠ gb289))) (fun _ hk => hk.2) (.int .i64 (Go.bits .and .i64 (wrap64 (bt a0 x6_1)) 127))) (fun _ hk => hk.2) (.string (a0.extract ((ji12) : Int).toNat ((wrap64 ((ji12) + t288)) : Int).toNat))) (fun _ hk => hk.1.2)⟩, ⟨by (with_reducible repeat (first | refine blk_drewN ?_ _ | refine blk_drew ?_ | refine blk_alloc ?_ _)); refine blk_put (cs := #[.int .i64 (Go.bits .and .i64 (wrap64 (bt a0 x6_1)) 127), .string (⟨#[]⟩ : ByteArray)]) ?_ 1 _ rfl; (with_reducible repeat (first | refine blk_drewN ?_ _ | refine blk_drew ?_ | refine blk_alloc ?_ _)); refine blk_put (cs := #[.int .i64 0, .string (⟨#[]⟩ : ByteArray)]) ?_ 0 _ rfl; (with_reducible repeat (first | refine blk_drewN ?_ _ | refine blk_drew ?_ | refine blk_alloc ?_ _)); exact BK289.out⟩, ⟨by repeat (first | (with_reducible first | exact HB.out | apply below_alloc | apply pw_below_drewN | apply below_drew1 | refine below_set ?_ GE289.out) | exact HB.out)⟩⟩
                            · rw [if_neg c19] at H
                              have c19b0 : ((Go.bits .and .i64 (wrap64 (bt a0 x6_1)) 127) == 4) = false := beq_eq_false_iff_ne.mpr c19
                              have c19b1 : ((Go.bits .and .i64 (wrap64 (bt a0 x6_1)) 127) != 4) = true := bne_iff_ne.mpr c19
                              (first | rw [c19b0] | (simp only [i64_w, i32_w]; rw [c19b0]) | skip)
                              have H' := Aside0.mk H
                              clear H
                              go_wp2
                              repeat (go_quiet (fail); try go_wp2)
                              go_meet
                              case rel => exact ⟨_, (x7_1), (by first | rfl | (simp; done) | (simp [*]; done)), H', ⟨by have := HK1.out; first | omega | exact Nat.le_refl _⟩, ⟨by (with_reducible repeat (first | apply Kd.R_alloc | apply Kd.R_drewN | apply Kd.R_drew)); exact Kd.R_mono (Kd.R_far (p := ⟨gb289, 1, none⟩) (Kd.R_far (p := ⟨gb289, 0, none⟩) (Kd.R_mono HO_5.out (fun k_ hk => (⟨hk, hk.2⟩ : _ ∧ k_ ≠ gb289))) (fun _ hk => hk.2) (.int .i64 (Go.bits .and .i64 (wrap64 (bt a0 x6_1)) 127))) (fun _ hk => hk.2) (.string (a0.extract ((ji12) : Int).toNat ((wrap64 ((ji12) + t288)) : Int).toNat))) (fun _ hk => hk.1.2)⟩, ⟨by (with_reducible repeat (first | refine blk_drewN ?_ _ | refine blk_drew ?_ | refine blk_alloc ?_ _)); refine blk_put (cs := #[.int .i64 (Go.bits .and .i64 (wrap64 (bt a0 x6_1)) 127), .string (⟨#[]⟩ : ByteArray)]) ?_ 1 _ rfl; (with_reducible repeat (first | refine blk_drewN ?_ _ | refine blk_drew ?_ | refine blk_alloc ?_ _)); refine blk_put (cs := #[.int .i64 0, .string (⟨#[]⟩ : ByteArray)]) ?_ 0 _ rfl; (with_reducible repeat (first | refine blk_drewN ?_ _ | refine blk_drew ?_ | refine blk_alloc ?_ _)); exact BK289.out⟩, ⟨by repeat (first | (with_reducible first | exact HB.out | apply below_alloc | apply pw_below_drewN | apply below_drew1 | refine below_set ?_ GE289.out) | exact HB.out)⟩⟩
                          case rest =>
                            clear HC16
                            try clear c1
                            try clear c2
                            try clear c2b0
                            try clear p2
                            try clear c3
                            try clear c3b0
                            try clear c4
                            try clear c4b0
                            try clear p5
                            try clear q5
                            try clear hx5
                            try clear p6
                            try clear c7
                            try clear c7b0
                            try clear c7b1
                            try clear c8
                            try clear c8b0
                            try clear c8b1
                            try clear c9
                            try clear c9b0
                            try clear c9b1
                            try clear c11
                            try clear c11b0
                            try clear c13
                            try clear c13b0
                            try clear c13b1
                            try clear c14
                            try clear c14b0
                            try clear c14b1
                            try clear c15
                            try clear c15b0
                            try clear c15b1
                            try clear c16
                            try clear c19
                            try clear c19b0
                            try clear c19b1
                            try clear hcz18_0
                            try clear hcz18_1
                            try clear hfz18_0
                            try clear hfz18_1
                            try clear p5
                            try clear q5
                            obtain ⟨kq, x7_15, rfl, HA, HJ15, HO_5, BK289, HB⟩ := hcut
                            cases kq with
                            | zero => exact absurd HA.out (by simp [lacquerref13_Parse.j1])
                            | succ kj15 =>
                              have H := HA.out
                              clear HA
                              simp only [lacquerref13_Parse.j1] at H
                              have HC20 := Aside0.mk H
                              clear H
                              go_upto_region 14 with (fail)
                              repeat (go_quiet (fail); go_upto_region 14 with (fail))
                              go_cut [68] (fun v68 wc => ∃ (kq : Nat) (x68_19 : Bool), v68 = .bool x68_19 ∧ Aside0 (lacquerref13_Parse.j2 kq a0 x5_1 (wrap64 ((ji12) + t288)) x7_15 (wrap64 (bt a0 x6_1)) x68_19 (Go.bits .and .i64 (wrap64 (bt a0 x6_1)) 127) (a0.extract ((ji12) : Int).toNat ((wrap64 ((ji12) + t288)) : Int).toNat) = some (r1, r2, r3)) ∧ Aside0 (kq ≤ kj15) ∧ Aside0 (Kd.R k36 36 wc w.heap.size (fun k_ => k_ ≠ gb289) u5 x5_1) ∧ Aside0 (wc.heap[gb289]? = some (.cells #[.int .i64 (Go.bits .and .i64 (wrap64 (bt a0 x6_1)) 127), .string (a0.extract ((ji12) : Int).toNat ((wrap64 ((ji12) + t288)) : Int).toNat)] 36 (0, 0))) ∧ Aside0 (Below w.heap.size w wc))
                              case first =>
                                have H := HC20.out
                                clear HC20
                                by_cases c21 : (((Go.bits .and .i64 (wrap64 (bt a0 x6_1)) 127) == 0) != ((x5_1.length : Int) == 0)) = true
                                · rw [if_pos c21] at H
                                  have c21b0 : (((Go.bits .and .i64 (wrap64 (bt a0 x6_1)) 127) == 0) != ((x5_1.length : Int) == 0)) = true := c21
                                  (try (have c21b1 : decide (((Go.bits .and .i64 (wrap64 (bt a0 x6_1)) 127) == 0) = ((x5_1.length : Int) == 0)) = false := by simpa using c21))
                                  (try (have c21b2 : (((Go.bits .and .i64 (wrap64 (bt a0 x6_1)) 127) == 0) == ((x5_1.length : Int) == 0)) = false := by simpa using c21))
                                  (try (have c21b3 : ¬ (((Go.bits .and .i64 (wrap64 (bt a0 x6_1)) 127) == 0) = ((x5_1.length : Int) == 0)) := by simpa using c21))
                                  clear c21
                                  (first | rw [c21b0] | (simp only [i64_w, i32_w]; rw [c21b0]) | skip)
                                  have H' := Aside0.mk H
                                  clear H
                                  have hcz22_0 : wc.cell? ⟨gb289, 0, none⟩ = some (.int .i64 (Go.bits .and .i64 (wrap64 (bt a0 x6_1)) 127)) := (blk_cell BK289.out 0).trans rfl
                                  have hcz22_1 : wc.cell? ⟨gb289, 1, none⟩ = some (.string (a0.extract ((ji12) : Int).toNat ((wrap64 ((ji12) + t288)) : Int).toNat)) := (blk_cell BK289.out 1).trans rfl
                                  have hfz22_0 := blk_frozen BK289.out 0
                                  have hfz22_1 := blk_frozen BK289.out 1
                                  obtain ⟨Ao23, co23, eo23⟩ := Kd.R_slice HO_5.out
                                  subst eo23
                                  go_wp2
                                  repeat (go_quiet (fail); try go_wp2)
                                  go_meet
                                  case rel => exact ⟨_, (true), (by first | rfl | (simp; done) | (simp [*]; done)), H', ⟨by have := HK1.out; have := HJ15.out; first | omega | exact Nat.le_refl _⟩, ⟨by (with_reducible repeat (first | apply Kd.R_alloc | apply Kd.R_drewN | apply Kd.R_drew)); exact HO_5.out⟩, ⟨by (with_reducible repeat (first | refine blk_drewN ?_ _ | refine blk_drew ?_ | refine blk_alloc ?_ _)); exact BK289.out⟩, ⟨by repeat (first | (with_reducible first | exact HB.out | apply below_alloc | apply pw_below_drewN | apply below_drew1 | refine below_set ?_ GE289.out) | exact HB.out)⟩⟩
                                · rw [if_neg c21] at H
                                  have c21b0 : (((Go.bits .and .i64 (wrap64 (bt a0 x6_1)) 127) == 0) != ((x5_1.length : Int) == 0)) = false := by simpa using c21
                                  (try (have c21b1 : decide (((Go.bits .and .i64 (wrap64 (bt a0 x6_1)) 127) == 0) = ((x5_1.length : Int) == 0)) = true := by simpa using c21))
                                  (try (have c21b2 : (((Go.bits .and .i64 (wrap64 (bt a0 x6_1)) 127) == 0) == ((x5_1.length : Int) == 0)) = true := by simpa using c21))
                                  clear c21
                                  (first | rw [c21b0] | (simp only [i64_w, i32_w]; rw [c21b0]) | skip)
                                  by_cases c24 : (Go.bits .and .i64 (wrap64 (bt a0 x6_1)) 127) = 127
                                  · rw [if_pos c24] at H
                                    have c24b0 : ((Go.bits .and .i64 (wrap64 (bt a0 x6_1)) 127) == 127) = true := beq_iff_eq.mpr c24
                                    have c24b1 : ((Go.bits .and .i64 (wrap64 (bt a0 x6_1)) 127) != 127) = false := bne_eq_false_iff_eq.mpr c24
                                    clear c24
                                    have H' := Aside0.mk H
                                    clear H
                                    have hcz25_0 : wc.cell? ⟨gb289, 0, none⟩ = some (.int .i64 (Go.bits .and .i64 (wrap64 (bt a0 x6_1)) 127)) := (blk_cell BK289.out 0).trans rfl
                                    have hcz25_1 : wc.cell? ⟨gb289, 1, none⟩ = some (.string (a0.extract ((ji12) : Int).toNat ((wrap64 ((ji12) + t288)) : Int).toNat)) := (blk_cell BK289.out 1).trans rfl
                                    have hfz25_0 := blk_frozen BK289.out 0
                                    have hfz25_1 := blk_frozen BK289.out 1
                                    obtain ⟨Ao26, co26, eo26⟩ := Kd.R_slice HO_5.out
                                    subst eo26
                                    go_wp2
                                    repeat (go_quiet (fail); try go_wp2)
                                    go_meet
                                    case rel => exact ⟨_, (true), (by first | rfl | (simp; done) | (simp [*]; done)), H', ⟨by have := HK1.out; have := HJ15.out; first | omega | exact Nat.le_refl _⟩, ⟨by (with_reducible repeat (first | apply Kd.R_alloc | apply Kd.R_drewN | apply Kd.R_drew)); exact HO_5.out⟩, ⟨by (with_reducible repeat (first | refine blk_drewN ?_ _ | refine blk_drew ?_ | refine blk_alloc ?_ _)); exact BK289.out⟩, ⟨by repeat (first | (with_reducible first | exact HB.out | apply below_alloc | apply pw_below_drewN | apply below_drew1 | refine below_set ?_ GE289.out) | exact HB.out)⟩⟩
                                  · rw [if_neg c24] at H
                                    have c24b0 : ((Go.bits .and .i64 (wrap64 (bt a0 x6_1)) 127) == 127) = false := beq_eq_false_iff_ne.mpr c24
                                    have c24b1 : ((Go.bits .and .i64 (wrap64 (bt a0 x6_1)) 127) != 127) = true := bne_iff_ne.mpr c24
                                    have H' := Aside0.mk H
                                    clear H
                                    have hcz27_0 : wc.cell? ⟨gb289, 0, none⟩ = some (.int .i64 (Go.bits .and .i64 (wrap64 (bt a0 x6_1)) 127)) := (blk_cell BK289.out 0).trans rfl
                                    have hcz27_1 : wc.cell? ⟨gb289, 1, none⟩ = some (.string (a0.extract ((ji12) : Int).toNat ((wrap64 ((ji12) + t288)) : Int).toNat)) := (blk_cell BK289.out 1).trans rfl
                                    have hfz27_0 := blk_frozen BK289.out 0
                                    have hfz27_1 := blk_frozen BK289.out 1
                                    obtain ⟨Ao28, co28, eo28⟩ := Kd.R_slice HO_5.out
                                    subst eo28
                                    go_wp2
                                    repeat (go_quiet (fail); try go_wp2)
                                    go_meet
                                    case rel => exact ⟨_, (decide (x7_15 > 1)), (by first | rfl | (simp; done) | (simp [*]; done)), H', ⟨by have := HK1.out; have := HJ15.out; first | omega | exact Nat.le_refl _⟩, ⟨by (with_reducible repeat (first | apply Kd.R_alloc | apply Kd.R_drewN | apply Kd.R_drew)); exact HO_5.out⟩, ⟨by (with_reducible repeat (first | refine blk_drewN ?_ _ | refine blk_drew ?_ | refine blk_alloc ?_ _)); exact BK289.out⟩, ⟨by repeat (first | (with_reducible first | exact HB.out | apply below_alloc | apply pw_below_drewN | apply below_drew1 | refine below_set ?_ GE289.out) | exact HB.out)⟩⟩
                              case rest =>
                                clear HC20
                                try clear c1
                                try clear c2
                                try clear c2b0
                                try clear p2
                                try clear c3
                                try clear c3b0
                                try clear c4
                                try clear c4b0
                                try clear p5
                                try clear q5
                                try clear hx5
                                try clear p6
                                try clear c7
                                try clear c7b0
                                try clear c7b1
                                try clear c8
                                try clear c8b0
                                try clear c8b1
                                try clear c9
                                try clear c9b0
                                try clear c9b1
                                try clear c11
                                try clear c11b0
                                try clear c13
                                try clear c13b0
                                try clear c13b1
                                try clear c14
                                try clear c14b0
                                try clear c14b1
                                try clear c15
                                try clear c15b0
                                try clear c15b1
                                try clear c16
                                try clear c19
                                try clear c19b0
                                try clear c19b1
                                try clear c21
                                try clear c21b0
                                try clear c21b1
                                try clear c21b2
                                try clear c24
                                try clear c24b0
                                try clear c24b1
                                try clear hcz18_0
                                try clear hcz18_1
                                try clear hcz22_0
                                try clear hcz22_1
                                try clear hcz25_0
                                try clear hcz25_1
                                try clear hcz27_0
                                try clear hcz27_1
                                try clear hfz18_0
                                try clear hfz18_1
                                try clear hfz22_0
                                try clear hfz22_1
                                try clear hfz25_0
                                try clear hfz25_1
                                try clear hfz27_0
                                try clear hfz27_1
                                try clear p2
                                try clear p5
                                try clear p6
                                try clear q5
                                obtain ⟨kq, x68_19, rfl, HA, HJ19, HO_5, BK289, HB⟩ := hcut
                                cases kq with
                                | zero => exact absurd HA.out (by simp [lacquerref13_Parse.j2])
                                | succ kj19 =>
                                  have H := HA.out
                                  clear HA
                                  simp only [lacquerref13_Parse.j2] at H
                                  by_cases c29 : x68_19 = true
                                  · subst c29
                                    have H1 : (some (([] : List (S36)), 0, 2)) = some (r1, r2, r3) := by rw [if_pos rfl] at H; exact H
                                    clear H
                                    have H := H1
                                    clear H1
                                    simp only [Option.some.injEq, Prod.mk.injEq] at H
                                    obtain ⟨rfl, rfl, rfl⟩ := H
                                    go_wp2
                                    repeat (go_quiet (fail); try go_wp2)
                                    go_ret3
                                    exact ⟨_, by first | rfl | (simp [errW_none, errW_some] <;> rfl) | (simp only [← hji6, ← hji12]; first | rfl | (simp [errW_none, errW_some] <;> rfl)) | (simp [*, errW_none, errW_some] <;> rfl), by first | exact Kd.R_nil _ _ _ _ _ | exact Kd.N_nil _ _ _ _ _ | exact Kd.V_nil _ _ _ _ _ | exact Kd.Q_nil _ _ _ _ _ | exact Kd.S_nil _ _ _ _ _, by repeat (first | (with_reducible first | exact HB.out | apply below_alloc | apply pw_below_drewN | apply below_drew1 | refine below_set ?_ GE289.out) | exact HB.out)⟩
                                  · replace c29 := Bool.eq_false_iff.mpr c29
                                    subst c29
                                    have H1 : (if (x5_1.length : Int) = 1024 then (some (([] : List (S36)), 0, 5)) else ((lacquerref13_Check.f kj19 (Go.bits .and .i64 (wrap64 (bt a0 x6_1)) 127) (a0.extract ((ji12) : Int).toNat ((wrap64 ((ji12) + t288)) : Int).toNat)).bind fun t290 => (if t290 = 0 then (if x5_1.length < 5864062014805 then ((some (x5_1 ++ [(⟨(Go.bits .and .i64 (wrap64 (bt a0 x6_1)) 127), (a0.extract ((ji12) : Int).toNat ((wrap64 ((ji12) + t288)) : Int).toNat)⟩ : S36)] : List (S36))).bind fun y291 => (if (wrap64 (bt a0 x6_1)) > 127 then (some (y291, (wrap64 ((ji12) + t288)), 0)) else (lacquerref13_Parse.l0 kj19 a0 y291 (wrap64 ((ji12) + t288)) x7_15))) else (none)) else (some (([] : List (S36)), 0, t290))))) = some (r1, r2, r3) := by rw [if_neg (show ¬ (false = true) by decide)] at H; exact H
                                    clear H
                                    have H := H1
                                    clear H1
                                    by_cases c30 : (x5_1.length : Int) = 1024
                                    · rw [if_pos c30] at H
                                      have c30b0 : ((x5_1.length : Int) == 1024) = true := beq_iff_eq.mpr c30
                                      have c30b1 : ((x5_1.length : Int) != 1024) = false := bne_eq_false_iff_eq.mpr c30
                                      clear c30
                                      simp only [Option.some.injEq, Prod.mk.injEq] at H
                                      obtain ⟨rfl, rfl, rfl⟩ := H
                                      obtain ⟨Ao31, co31, eo31⟩ := Kd.R_slice HO_5.out
                                      subst eo31
                                      go_wp2
                                      repeat (go_quiet (fail); try go_wp2)
                                      go_ret3
                                      exact ⟨_, by first | rfl | (simp [errW_none, errW_some] <;> rfl) | (simp only [← hji6, ← hji12]; first | rfl | (simp [errW_none, errW_some] <;> rfl)) | (simp [*, errW_none, errW_some] <;> rfl), by first | exact Kd.R_nil _ _ _ _ _ | exact Kd.N_nil _ _ _ _ _ | exact Kd.V_nil _ _ _ _ _ | exact Kd.Q_nil _ _ _ _ _ | exact Kd.S_nil _ _ _ _ _, by repeat (first | (with_reducible first | exact HB.out | apply below_alloc | apply pw_below_drewN | apply below_drew1 | refine below_set ?_ GE289.out) | exact HB.out)⟩
                                    · rw [if_neg c30] at H
                                      have c30b0 : ((x5_1.length : Int) == 1024) = false := beq_eq_false_iff_ne.mpr c30
                                      have c30b1 : ((x5_1.length : Int) != 1024) = true := bne_iff_ne.mpr c30
                                      replace H := Option.bind_eq_some_iff.mp H
                                      obtain ⟨t290, A320, H⟩ := H
                                      replace H : (if t290 = 0 then (if x5_1.length < 5864062014805 then ((some (x5_1 ++ [(⟨(Go.bits .and .i64 (wrap64 (bt a0 x6_1)) 127), (a0.extract ((ji12) : Int).toNat ((wrap64 ((ji12) + t288)) : Int).toNat)⟩ : S36)] : List (S36))).bind fun y291 => (if (wrap64 (bt a0 x6_1)) > 127 then (some (y291, (wrap64 ((ji12) + t288)), 0)) else (lacquerref13_Parse.l0 kj19 a0 y291 (wrap64 ((ji12) + t288)) x7_15))) else (none)) else (some (([] : List (S36)), 0, t290))) = some (r1, r2, r3) := H
                                      have A32 := Aside0.mk A320
                                      clear A320
                                      by_cases c33 : t290 = 0
                                      · rw [if_pos c33] at H
                                        have c33b0 : (t290 == 0) = true := beq_iff_eq.mpr c33
                                        have c33b1 : (t290 != 0) = false := bne_eq_false_iff_eq.mpr c33
                                        clear c33
                                        by_cases c34 : x5_1.length < 5864062014805
                                        · rw [if_pos c34] at H
                                          have LMc34 := Aside0.mk c34
                                          clear c34
                                          obtain ⟨y291, hy291⟩ : ∃ y_ : List (S36), y_ = (x5_1 ++ [(⟨(Go.bits .and .i64 (wrap64 (bt a0 x6_1)) 127), (a0.extract ((ji12) : Int).toNat ((wrap64 ((ji12) + t288)) : Int).toNat)⟩ : S36)]) := ⟨_, rfl⟩
                                          replace H : (if (wrap64 (bt a0 x6_1)) > 127 then (some (y291, (wrap64 ((ji12) + t288)), 0)) else (lacquerref13_Parse.l0 kj19 a0 y291 (wrap64 ((ji12) + t288)) x7_15)) = some (r1, r2, r3) := by first | (rw [hy291]; with_reducible exact H) | (have H2_ := (Option.bind_some _ _).symm.trans H; rw [hy291]; with_reducible exact H2_) | (have H2_ := (Option.bind_some _ _).symm.trans H; with_reducible exact H2_) | with_reducible exact H | (rw [hy291]; exact H) | exact H
                                          have Ny291 := Aside0.mk hy291
                                          clear hy291
                                          by_cases c35 : (wrap64 (bt a0 x6_1)) > 127
                                          · rw [if_pos c35] at H
                                            have c35b0 : decide (127 < (wrap64 (bt a0 x6_1))) = true := decide_eq_true c35
                                            clear c35
                                            simp only [Option.some.injEq, Prod.mk.injEq] at H
                                            obtain ⟨rfl, rfl, rfl⟩ := H
                                            obtain ⟨Ao36, co36, eo36⟩ := Kd.R_slice HO_5.out
                                            subst eo36
                                            have hcz37_0 : wc.cell? ⟨gb289, 0, none⟩ = some (.int .i64 (Go.bits .and .i64 (wrap64 (bt a0 x6_1)) 127)) := (blk_cell BK289.out 0).trans rfl
                                            have hcz37_1 : wc.cell? ⟨gb289, 1, none⟩ = some (.string (a0.extract ((ji12) : Int).toNat ((wrap64 ((ji12) + t288)) : Int).toNat)) := (blk_cell BK289.out 1).trans rfl
                                            have hfz37_0 := blk_frozen BK289.out 0
                                            have hfz37_1 := blk_frozen BK289.out 1
                                            go_wp2_with (first | (go_at_call 14; (with_reducible refine (lacquerref13_Check.calls kj19 (Go.bits .and .i64 (wrap64 (bt a0 x6_1)) 127) (a0.extract ((ji12) : Int).toNat ((wrap64 ((ji12) + t288)) : Int).toNat) t290 _ A32.out).mono ?_); rintro e w38 ⟨rfl, hb⟩; have n0_ := Aside0.mk (Kd.R_below (by (with_reducible repeat (first | apply Kd.R_alloc | apply Kd.R_drewN | apply Kd.R_drew)); exact HO_5.out) hb); have n1_ := Aside0.mk (blk_below (g := gb289) (o := .cells #[.int .i64 (Go.bits .and .i64 (wrap64 (bt a0 x6_1)) 127), .string (a0.extract ((ji12) : Int).toNat ((wrap64 ((ji12) + t288)) : Int).toNat)] 36 (0, 0)) (by (with_reducible repeat (first | refine blk_drewN ?_ _ | refine blk_drew ?_ | refine blk_alloc ?_ _)); exact BK289.out) hb); have n2_ := Aside0.mk (below_step (by repeat (first | (with_reducible first | exact HB.out | apply below_alloc | apply pw_below_drewN | apply below_drew1 | refine below_set ?_ GE289.out) | exact HB.out)) hb); clear HO_5; clear BK289; clear HB; have HO_5 := n0_; have BK289 := n1_; have HB := n2_; clear n0_ n1_ n2_; (try clear hb); (try clear hb2); (try clear hk); (try clear hi); have hcz39_0 : w38.cell? ⟨gb289, 0, none⟩ = some (.int .i64 (Go.bits .and .i64 (wrap64 (bt a0 x6_1)) 127)) := (blk_cell BK289.out 0).trans rfl; have hcz39_1 : w38.cell? ⟨gb289, 1, none⟩ = some (.string (a0.extract ((ji12) : Int).toNat ((wrap64 ((ji12) + t288)) : Int).toNat)) := (blk_cell BK289.out 1).trans rfl; have hfz39_0 := blk_frozen BK289.out 0; have hfz39_1 := blk_frozen BK289.out 1) | ((with_reducible refine gate_builtin (b := .append) (xs := #[.tmp 77, .tmp 79]) rfl ?_); at_builtin; refine Kd.R_append k36 (w0 := w) w.heap.size rfl (.tmp 77) (.tmp 79) 40 36 (.agg #[(.int .i64 0), (.string ⟨#[]⟩)]) 24 rfl Try.underlying40 info36 rfl (by decide) (by omega) (.slice Ao36 x5_1.length co36) x5_1 (⟨(Go.bits .and .i64 (wrap64 (bt a0 x6_1)) 127), (a0.extract ((ji12) : Int).toNat ((wrap64 ((ji12) + t288)) : Int).toNat)⟩ : S36) [.int .i64 (Go.bits .and .i64 (wrap64 (bt a0 x6_1)) 127), .string (a0.extract ((ji12) : Int).toNat ((wrap64 ((ji12) + t288)) : Int).toNat)] (fun k_ => k_ ≠ gb289) (fun _ => False) rfl rfl ?aP (fun _ hk => hk.elim) ?aF ?aO ?aB ?aS ?aL ?_; (case aP => exact k36_mkM _ _ _ (⟨(Go.bits .and .i64 (wrap64 (bt a0 x6_1)) 127), (a0.extract ((ji12) : Int).toNat ((wrap64 ((ji12) + t288)) : Int).toNat)⟩ : S36)); (case aB => exact (by repeat (first | (with_reducible first | exact HB.out | apply below_alloc | apply pw_below_drewN | apply below_drew1 | refine below_set ?_ GE289.out) | exact HB.out))); (case aF => exact (fun k_ hk => Kd.freshB (g := gb289) (o := .cells #[.int .i64 (Go.bits .and .i64 (wrap64 (bt a0 x6_1)) 127), .string (a0.extract ((ji12) : Int).toNat ((wrap64 ((ji12) + t288)) : Int).toNat)] 36 (0, 0)) (by (with_reducible repeat (first | refine blk_drewN ?_ _ | refine blk_drew ?_ | refine blk_alloc ?_ _)); exact BK289.out) k_ hk)); (case aO => exact (by (with_reducible repeat (first | apply Kd.R_alloc | apply Kd.R_drewN | apply Kd.R_drew)); exact HO_5.out)); (case aS => exact (below_size (by repeat (first | (with_reducible first | exact HB.out | apply below_alloc | apply pw_below_drewN | apply below_drew1 | refine below_set ?_ GE289.out) | exact HB.out)))); (case aL => have := LMc34.out; omega); intro v292 w40 ho hb hg hat; rw [← Ny291.out] at ho; have n0_ := Aside0.mk (blk_grown (g := gb289) (o := .cells #[.int .i64 (Go.bits .and .i64 (wrap64 (bt a0 x6_1)) 127), .string (a0.extract ((ji12) : Int).toNat ((wrap64 ((ji12) + t288)) : Int).toNat)] 36 (0, 0)) (by (with_reducible repeat (first | refine blk_drewN ?_ _ | refine blk_drew ?_ | refine blk_alloc ?_ _)); exact BK289.out) hg (Kd.R_away HO_5.out (fun _ hk => hk))); have n1_ := Aside0.mk (hb); have n2_ := Aside0.mk (ho); clear BK289; clear HB; clear HO_5; have BK289 := n0_; have HB := n1_; have HO293 := n2_; clear n0_ n1_ n2_; clear ho hb hg hat))
                                            repeat (go_quiet (first | (go_at_call 14; (with_reducible refine (lacquerref13_Check.calls kj19 (Go.bits .and .i64 (wrap64 (bt a0 x6_1)) 127) (a0.extract ((ji12) : Int).toNat ((wrap64 ((ji12) + t288)) : Int).toNat) t290 _ A32.out).mono ?_); rintro e w38 ⟨rfl, hb⟩; have n0_ := Aside0.mk (Kd.R_below (by (with_reducible repeat (first | apply Kd.R_alloc | apply Kd.R_drewN | apply Kd.R_drew)); exact HO_5.out) hb); have n1_ := Aside0.mk (blk_below (g := gb289) (o := .cells #[.int .i64 (Go.bits .and .i64 (wrap64 (bt a0 x6_1)) 127), .string (a0.extract ((ji12) : Int).toNat ((wrap64 ((ji12) + t288)) : Int).toNat)] 36 (0, 0)) (by (with_reducible repeat (first | refine blk_drewN ?_ _ | refine blk_drew ?_ | refine blk_alloc ?_ _)); exact BK289.out) hb); have n2_ := Aside0.mk (below_step (by repeat (first | (with_reducible first | exact HB.out | apply below_alloc | apply pw_below_drewN | apply below_drew1 | refine below_set ?_ GE289.out) | exact HB.out)) hb); clear HO_5; clear BK289; clear HB; have HO_5 := n0_; have BK289 := n1_; have HB := n2_; clear n0_ n1_ n2_; (try clear hb); (try clear hb2); (try clear hk); (try clear hi); have hcz39_0 : w38.cell? ⟨gb289, 0, none⟩ = some (.int .i64 (Go.bits .and .i64 (wrap64 (bt a0 x6_1)) 127)) := (blk_cell BK289.out 0).trans rfl; have hcz39_1 : w38.cell? ⟨gb289, 1, none⟩ = some (.string (a0.extract ((ji12) : Int).toNat ((wrap64 ((ji12) + t288)) : Int).toNat)) := (blk_cell BK289.out 1).trans rfl; have hfz39_0 := blk_frozen BK289.out 0; have hfz39_1 := blk_frozen BK289.out 1) | ((with_reducible refine gate_builtin (b := .append) (xs := #[.tmp 77, .tmp 79]) rfl ?_); at_builtin; refine Kd.R_append k36 (w0 := w) w.heap.size rfl (.tmp 77) (.tmp 79) 40 36 (.agg #[(.int .i64 0), (.string ⟨#[]⟩)]) 24 rfl Try.underlying40 info36 rfl (by decide) (by omega) (.slice Ao36 x5_1.length co36) x5_1 (⟨(Go.bits .and .i64 (wrap64 (bt a0 x6_1)) 127), (a0.extract ((ji12) : Int).toNat ((wrap64 ((ji12) + t288)) : Int).toNat)⟩ : S36) [.int .i64 (Go.bits .and .i64 (wrap64 (bt a0 x6_1)) 127), .string (a0.extract ((ji12) : Int).toNat ((wrap64 ((ji12) + t288)) : Int).toNat)] (fun k_ => k_ ≠ gb289) (fun _ => False) rfl rfl ?aP (fun _ hk => hk.elim) ?aF ?aO ?aB ?aS ?aL ?_; (case aP => exact k36_mkM _ _ _ (⟨(Go.bits .and .i64 (wrap64 (bt a0 x6_1)) 127), (a0.extract ((ji12) : Int).toNat ((wrap64 ((ji12) + t288)) : Int).toNat)⟩ : S36)); (case aB => exact (by repeat (first | (with_reducible first | exact HB.out | apply below_alloc | apply pw_below_drewN | apply below_drew1 | refine below_set ?_ GE289.out) | exact HB.out))); (case aF => exact (fun k_ hk => Kd.freshB (g := gb289) (o := .cells #[.int .i64 (Go.bits .and .i64 (wrap64 (bt a0 x6_1)) 127), .string (a0.extract ((ji12) : Int).toNat ((wrap64 ((ji12) + t288)) : Int).toNat)] 36 (0, 0)) (by (with_reducible repeat (first | refine blk_drewN ?_ _ | refine blk_drew ?_ | refine blk_alloc ?_ _)); exact BK289.out) k_ hk)); (case aO => exact (by (with_reducible repeat (first | apply Kd.R_alloc | apply Kd.R_drewN | apply Kd.R_drew)); exact HO_5.out)); (case aS => exact (below_size (by repeat (first | (with_reducible first | exact HB.out | apply below_alloc | apply pw_below_drewN | apply below_drew1 | refine below_set ?_ GE289.out) | exact HB.out)))); (case aL => have := LMc34.out; omega); intro v292 w40 ho hb hg hat; rw [← Ny291.out] at ho; have n0_ := Aside0.mk (blk_grown (g := gb289) (o := .cells #[.int .i64 (Go.bits .and .i64 (wrap64 (bt a0 x6_1)) 127), .string (a0.extract ((ji12) : Int).toNat ((wrap64 ((ji12) + t288)) : Int).toNat)] 36 (0, 0)) (by (with_reducible repeat (first | refine blk_drewN ?_ _ | refine blk_drew ?_ | refine blk_alloc ?_ _)); exact BK289.out) hg (Kd.R_away HO_5.out (fun _ hk => hk))); have n1_ := Aside0.mk (hb); have n2_ := Aside0.mk (ho); clear BK289; clear HB; clear HO_5; have BK289 := n0_; have HB := n1_; have HO293 := n2_; clear n0_ n1_ n2_; clear ho hb hg hat)); try go_wp2_with (first | (go_at_call 14; (with_reducible refine (lacquerref13_Check.calls kj19 (Go.bits .and .i64 (wrap64 (bt a0 x6_1)) 127) (a0.extract ((ji12) : Int).toNat ((wrap64 ((ji12) + t288)) : Int).toNat) t290 _ A32.out).mono ?_); rintro e w38 ⟨rfl, hb⟩; have n0_ := Aside0.mk (Kd.R_below (by (with_reducible repeat (first | apply Kd.R_alloc | apply Kd.R_drewN | apply Kd.R_drew)); exact HO_5.out) hb); have n1_ := Aside0.mk (blk_below (g := gb289) (o := .cells #[.int .i64 (Go.bits .and .i64 (wrap64 (bt a0 x6_1)) 127), .string (a0.extract ((ji12) : Int).toNat ((wrap64 ((ji12) + t288)) : Int).toNat)] 36 (0, 0)) (by (with_reducible repeat (first | refine blk_drewN ?_ _ | refine blk_drew ?_ | refine blk_alloc ?_ _)); exact BK289.out) hb); have n2_ := Aside0.mk (below_step (by repeat (first | (with_reducible first | exact HB.out | apply below_alloc | apply pw_below_drewN | apply below_drew1 | refine below_set ?_ GE289.out) | exact HB.out)) hb); clear HO_5; clear BK289; clear HB; have HO_5 := n0_; have BK289 := n1_; have HB := n2_; clear n0_ n1_ n2_; (try clear hb); (try clear hb2); (try clear hk); (try clear hi); have hcz39_0 : w38.cell? ⟨gb289, 0, none⟩ = some (.int .i64 (Go.bits .and .i64 (wrap64 (bt a0 x6_1)) 127)) := (blk_cell BK289.out 0).trans rfl; have hcz39_1 : w38.cell? ⟨gb289, 1, none⟩ = some (.string (a0.extract ((ji12) : Int).toNat ((wrap64 ((ji12) + t288)) : Int).toNat)) := (blk_cell BK289.out 1).trans rfl; have hfz39_0 := blk_frozen BK289.out 0; have hfz39_1 := blk_frozen BK289.out 1) | ((with_reducible refine gate_builtin (b := .append) (xs := #[.tmp 77, .tmp 79]) rfl ?_); at_builtin; refine Kd.R_append k36 (w0 := w) w.heap.size rfl (.tmp 77) (.tmp 79) 40 36 (.agg #[(.int .i64 0), (.string ⟨#[]⟩)]) 24 rfl Try.underlying40 info36 rfl (by decide) (by omega) (.slice Ao36 x5_1.length co36) x5_1 (⟨(Go.bits .and .i64 (wrap64 (bt a0 x6_1)) 127), (a0.extract ((ji12) : Int).toNat ((wrap64 ((ji12) + t288)) : Int).toNat)⟩ : S36) [.int .i64 (Go.bits .and .i64 (wrap64 (bt a0 x6_1)) 127), .string (a0.extract ((ji12) : Int).toNat ((wrap64 ((ji12) + t288)) : Int).toNat)] (fun k_ => k_ ≠ gb289) (fun _ => False) rfl rfl ?aP (fun _ hk => hk.elim) ?aF ?aO ?aB ?aS ?aL ?_; (case aP => exact k36_mkM _ _ _ (⟨(Go.bits .and .i64 (wrap64 (bt a0 x6_1)) 127), (a0.extract ((ji12) : Int).toNat ((wrap64 ((ji12) + t288)) : Int).toNat)⟩ : S36)); (case aB => exact (by repeat (first | (with_reducible first | exact HB.out | apply below_alloc | apply pw_below_drewN | apply below_drew1 | refine below_set ?_ GE289.out) | exact HB.out))); (case aF => exact (fun k_ hk => Kd.freshB (g := gb289) (o := .cells #[.int .i64 (Go.bits .and .i64 (wrap64 (bt a0 x6_1)) 127), .string (a0.extract ((ji12) : Int).toNat ((wrap64 ((ji12) + t288)) : Int).toNat)] 36 (0, 0)) (by (with_reducible repeat (first | refine blk_drewN ?_ _ | refine blk_drew ?_ | refine blk_alloc ?_ _)); exact BK289.out) k_ hk)); (case aO => exact (by (with_reducible repeat (first | apply Kd.R_alloc | apply Kd.R_drewN | apply Kd.R_drew)); exact HO_5.out)); (case aS => exact (below_size (by repeat (first | (with_reducible first | exact HB.out | apply below_alloc | apply pw_below_drewN | apply below_drew1 | refine below_set ?_ GE289.out) | exact HB.out)))); (case aL => have := LMc34.out; omega); intro v292 w40 ho hb hg hat; rw [← Ny291.out] at ho; have n0_ := Aside0.mk (blk_grown (g := gb289) (o := .cells #[.int .i64 (Go.bits .and .i64 (wrap64 (bt a0 x6_1)) 127), .string (a0.extract ((ji12) : Int).toNat ((wrap64 ((ji12) + t288)) : Int).toNat)] 36 (0, 0)) (by (with_reducible repeat (first | refine blk_drewN ?_ _ | refine blk_drew ?_ | refine blk_alloc ?_ _)); exact BK289.out) hg (Kd.R_away HO_5.out (fun _ hk => hk))); have n1_ := Aside0.mk (hb); have n2_ := Aside0.mk (ho); clear BK289; clear HB; clear HO_5; have BK289 := n0_; have HB := n1_; have HO293 := n2_; clear n0_ n1_ n2_; clear ho hb hg hat)))
                                            go_ret3
                                            exact ⟨_, by first | rfl | (simp [errW_none, errW_some] <;> rfl) | (simp only [← hji6, ← hji12]; first | rfl | (simp [errW_none, errW_some] <;> rfl)) | (simp [*, errW_none, errW_some] <;> rfl), by (with_reducible repeat (first | apply Kd.R_alloc | apply Kd.R_drewN | apply Kd.R_drew)); exact Kd.R_mono HO293.out (fun _ hk => trivial), by repeat (first | (with_reducible first | exact HB.out | apply below_alloc | apply pw_below_drewN | apply below_drew1 | refine below_set ?_ GE289.out) | exact HB.out)⟩
                                          · rw [if_neg c35] at H
                                            have c35b0 : decide (127 < (wrap64 (bt a0 x6_1))) = false := decide_eq_false c35
                                            clear c35
                                            have H' := Aside0.mk H
                                            clear H
                                            obtain ⟨Ao41, co41, eo41⟩ := Kd.R_slice HO_5.out
                                            subst eo41
                                            have hcz42_0 : wc.cell? ⟨gb289, 0, none⟩ = some (.int .i64 (Go.bits .and .i64 (wrap64 (bt a0 x6_1)) 127)) := (blk_cell BK289.out 0).trans rfl
                                            have hcz42_1 : wc.cell? ⟨gb289, 1, none⟩ = some (.string (a0.extract ((ji12) : Int).toNat ((wrap64 ((ji12) + t288)) : Int).toNat)) := (blk_cell BK289.out 1).trans rfl
                                            have hfz42_0 := blk_frozen BK289.out 0
                                            have hfz42_1 := blk_frozen BK289.out 1
                                            go_wp2_with (first | (go_at_call 14; (with_reducible refine (lacquerref13_Check.calls kj19 (Go.bits .and .i64 (wrap64 (bt a0 x6_1)) 127) (a0.extract ((ji12) : Int).toNat ((wrap64 ((ji12) + t288)) : Int).toNat) t290 _ A32.out).mono ?_); rintro e w43 ⟨rfl, hb⟩; have n0_ := Aside0.mk (Kd.R_below (by (with_reducible repeat (first | apply Kd.R_alloc | apply Kd.R_drewN | apply Kd.R_drew)); exact HO_5.out) hb); have n1_ := Aside0.mk (blk_below (g := gb289) (o := .cells #[.int .i64 (Go.bits .and .i64 (wrap64 (bt a0 x6_1)) 127), .string (a0.extract ((ji12) : Int).toNat ((wrap64 ((ji12) + t288)) : Int).toNat)] 36 (0, 0)) (by (with_reducible repeat (first | refine blk_drewN ?_ _ | refine blk_drew ?_ | refine blk_alloc ?_ _)); exact BK289.out) hb); have n2_ := Aside0.mk (below_step (by repeat (first | (with_reducible first | exact HB.out | apply below_alloc | apply pw_below_drewN | apply below_drew1 | refine below_set ?_ GE289.out) | exact HB.out)) hb); clear HO_5; clear BK289; clear HB; have HO_5 := n0_; have BK289 := n1_; have HB := n2_; clear n0_ n1_ n2_; (try clear hb); (try clear hb2); (try clear hk); (try clear hi); have hcz44_0 : w43.cell? ⟨gb289, 0, none⟩ = some (.int .i64 (Go.bits .and .i64 (wrap64 (bt a0 x6_1)) 127)) := (blk_cell BK289.out 0).trans rfl; have hcz44_1 : w43.cell? ⟨gb289, 1, none⟩ = some (.string (a0.extract ((ji12) : Int).toNat ((wrap64 ((ji12) + t288)) : Int).toNat)) := (blk_cell BK289.out 1).trans rfl; have hfz44_0 := blk_frozen BK289.out 0; have hfz44_1 := blk_frozen BK289.out 1) | ((with_reducible refine gate_builtin (b := .append) (xs := #[.tmp 77, .tmp 79]) rfl ?_); at_builtin; refine Kd.R_append k36 (w0 := w) w.heap.size rfl (.tmp 77) (.tmp 79) 40 36 (.agg #[(.int .i64 0), (.string ⟨#[]⟩)]) 24 rfl Try.underlying40 info36 rfl (by decide) (by omega) (.slice Ao41 x5_1.length co41) x5_1 (⟨(Go.bits .and .i64 (wrap64 (bt a0 x6_1)) 127), (a0.extract ((ji12) : Int).toNat ((wrap64 ((ji12) + t288)) : Int).toNat)⟩ : S36) [.int .i64 (Go.bits .and .i64 (wrap64 (bt a0 x6_1)) 127), .string (a0.extract ((ji12) : Int).toNat ((wrap64 ((ji12) + t288)) : Int).toNat)] (fun k_ => k_ ≠ gb289) (fun _ => False) rfl rfl ?aP (fun _ hk => hk.elim) ?aF ?aO ?aB ?aS ?aL ?_; (case aP => exact k36_mkM _ _ _ (⟨(Go.bits .and .i64 (wrap64 (bt a0 x6_1)) 127), (a0.extract ((ji12) : Int).toNat ((wrap64 ((ji12) + t288)) : Int).toNat)⟩ : S36)); (case aB => exact (by repeat (first | (with_reducible first | exact HB.out | apply below_alloc | apply pw_below_drewN | apply below_drew1 | refine below_set ?_ GE289.out) | exact HB.out))); (case aF => exact (fun k_ hk => Kd.freshB (g := gb289) (o := .cells #[.int .i64 (Go.bits .and .i64 (wrap64 (bt a0 x6_1)) 127), .string (a0.extract ((ji12) : Int).toNat ((wrap64 ((ji12) + t288)) : Int).toNat)] 36 (0, 0)) (by (with_reducible repeat (first | refine blk_drewN ?_ _ | refine blk_drew ?_ | refine blk_alloc ?_ _)); exact BK289.out) k_ hk)); (case aO => exact (by (with_reducible repeat (first | apply Kd.R_alloc | apply Kd.R_drewN | apply Kd.R_drew)); exact HO_5.out)); (case aS => exact (below_size (by repeat (first | (with_reducible first | exact HB.out | apply below_alloc | apply pw_below_drewN | apply below_drew1 | refine below_set ?_ GE289.out) | exact HB.out)))); (case aL => have := LMc34.out; omega); intro v292 w45 ho hb hg hat; rw [← Ny291.out] at ho; have n0_ := Aside0.mk (blk_grown (g := gb289) (o := .cells #[.int .i64 (Go.bits .and .i64 (wrap64 (bt a0 x6_1)) 127), .string (a0.extract ((ji12) : Int).toNat ((wrap64 ((ji12) + t288)) : Int).toNat)] 36 (0, 0)) (by (with_reducible repeat (first | refine blk_drewN ?_ _ | refine blk_drew ?_ | refine blk_alloc ?_ _)); exact BK289.out) hg (Kd.R_away HO_5.out (fun _ hk => hk))); have n1_ := Aside0.mk (hb); have n2_ := Aside0.mk (ho); clear BK289; clear HB; clear HO_5; have BK289 := n0_; have HB := n1_; have HO293 := n2_; clear n0_ n1_ n2_; clear ho hb hg hat))
                                            repeat (go_quiet (first | (go_at_call 14; (with_reducible refine (lacquerref13_Check.calls kj19 (Go.bits .and .i64 (wrap64 (bt a0 x6_1)) 127) (a0.extract ((ji12) : Int).toNat ((wrap64 ((ji12) + t288)) : Int).toNat) t290 _ A32.out).mono ?_); rintro e w43 ⟨rfl, hb⟩; have n0_ := Aside0.mk (Kd.R_below (by (with_reducible repeat (first | apply Kd.R_alloc | apply Kd.R_drewN | apply Kd.R_drew)); exact HO_5.out) hb); have n1_ := Aside0.mk (blk_below (g := gb289) (o := .cells #[.int .i64 (Go.bits .and .i64 (wrap64 (bt a0 x6_1)) 127), .string (a0.extract ((ji12) : Int).toNat ((wrap64 ((ji12) + t288)) : Int).toNat)] 36 (0, 0)) (by (with_reducible repeat (first | refine blk_drewN ?_ _ | refine blk_drew ?_ | refine blk_alloc ?_ _)); exact BK289.out) hb); have n2_ := Aside0.mk (below_step (by repeat (first | (with_reducible first | exact HB.out | apply below_alloc | apply pw_below_drewN | apply below_drew1 | refine below_set ?_ GE289.out) | exact HB.out)) hb); clear HO_5; clear BK289; clear HB; have HO_5 := n0_; have BK289 := n1_; have HB := n2_; clear n0_ n1_ n2_; (try clear hb); (try clear hb2); (try clear hk); (try clear hi); have hcz44_0 : w43.cell? ⟨gb289, 0, none⟩ = some (.int .i64 (Go.bits .and .i64 (wrap64 (bt a0 x6_1)) 127)) := (blk_cell BK289.out 0).trans rfl; have hcz44_1 : w43.cell? ⟨gb289, 1, none⟩ = some (.string (a0.extract ((ji12) : Int).toNat ((wrap64 ((ji12) + t288)) : Int).toNat)) := (blk_cell BK289.out 1).trans rfl; have hfz44_0 := blk_frozen BK289.out 0; have hfz44_1 := blk_frozen BK289.out 1) | ((with_reducible refine gate_builtin (b := .append) (xs := #[.tmp 77, .tmp 79]) rfl ?_); at_builtin; refine Kd.R_append k36 (w0 := w) w.heap.size rfl (.tmp 77) (.tmp 79) 40 36 (.agg #[(.int .i64 0), (.string ⟨#[]⟩)]) 24 rfl Try.underlying40 info36 rfl (by decide) (by omega) (.slice Ao41 x5_1.length co41) x5_1 (⟨(Go.bits .and .i64 (wrap64 (bt a0 x6_1)) 127), (a0.extract ((ji12) : Int).toNat ((wrap64 ((ji12) + t288)) : Int).toNat)⟩ : S36) [.int .i64 (Go.bits .and .i64 (wrap64 (bt a0 x6_1)) 127), .string (a0.extract ((ji12) : Int).toNat ((wrap64 ((ji12) + t288)) : Int).toNat)] (fun k_ => k_ ≠ gb289) (fun _ => False) rfl rfl ?aP (fun _ hk => hk.elim) ?aF ?aO ?aB ?aS ?aL ?_; (case aP => exact k36_mkM _ _ _ (⟨(Go.bits .and .i64 (wrap64 (bt a0 x6_1)) 127), (a0.extract ((ji12) : Int).toNat ((wrap64 ((ji12) + t288)) : Int).toNat)⟩ : S36)); (case aB => exact (by repeat (first | (with_reducible first | exact HB.out | apply below_alloc | apply pw_below_drewN | apply below_drew1 | refine below_set ?_ GE289.out) | exact HB.out))); (case aF => exact (fun k_ hk => Kd.freshB (g := gb289) (o := .cells #[.int .i64 (Go.bits .and .i64 (wrap64 (bt a0 x6_1)) 127), .string (a0.extract ((ji12) : Int).toNat ((wrap64 ((ji12) + t288)) : Int).toNat)] 36 (0, 0)) (by (with_reducible repeat (first | refine blk_drewN ?_ _ | refine blk_drew ?_ | refine blk_alloc ?_ _)); exact BK289.out) k_ hk)); (case aO => exact (by (with_reducible repeat (first | apply Kd.R_alloc | apply Kd.R_drewN | apply Kd.R_drew)); exact HO_5.out)); (case aS => exact (below_size (by repeat (first | (with_reducible first | exact HB.out | apply below_alloc | apply pw_below_drewN | apply below_drew1 | refine below_set ?_ GE289.out) | exact HB.out)))); (case aL => have := LMc34.out; omega); intro v292 w45 ho hb hg hat; rw [← Ny291.out] at ho; have n0_ := Aside0.mk (blk_grown (g := gb289) (o := .cells #[.int .i64 (Go.bits .and .i64 (wrap64 (bt a0 x6_1)) 127), .string (a0.extract ((ji12) : Int).toNat ((wrap64 ((ji12) + t288)) : Int).toNat)] 36 (0, 0)) (by (with_reducible repeat (first | refine blk_drewN ?_ _ | refine blk_drew ?_ | refine blk_alloc ?_ _)); exact BK289.out) hg (Kd.R_away HO_5.out (fun _ hk => hk))); have n1_ := Aside0.mk (hb); have n2_ := Aside0.mk (ho); clear BK289; clear HB; clear HO_5; have BK289 := n0_; have HB := n1_; have HO293 := n2_; clear n0_ n1_ n2_; clear ho hb hg hat)); try go_wp2_with (first | (go_at_call 14; (with_reducible refine (lacquerref13_Check.calls kj19 (Go.bits .and .i64 (wrap64 (bt a0 x6_1)) 127) (a0.extract ((ji12) : Int).toNat ((wrap64 ((ji12) + t288)) : Int).toNat) t290 _ A32.out).mono ?_); rintro e w43 ⟨rfl, hb⟩; have n0_ := Aside0.mk (Kd.R_below (by (with_reducible repeat (first | apply Kd.R_alloc | apply Kd.R_drewN | apply Kd.R_drew)); exact HO_5.out) hb); have n1_ := Aside0.mk (blk_below (g := gb289) (o := .cells #[.int .i64 (Go.bits .and .i64 (wrap64 (bt a0 x6_1)) 127), .string (a0.extract ((ji12) : Int).toNat ((wrap64 ((ji12) + t288)) : Int).toNat)] 36 (0, 0)) (by (with_reducible repeat (first | refine blk_drewN ?_ _ | refine blk_drew ?_ | refine blk_alloc ?_ _)); exact BK289.out) hb); have n2_ := Aside0.mk (below_step (by repeat (first | (with_reducible first | exact HB.out | apply below_alloc | apply pw_below_drewN | apply below_drew1 | refine below_set ?_ GE289.out) | exact HB.out)) hb); clear HO_5; clear BK289; clear HB; have HO_5 := n0_; have BK289 := n1_; have HB := n2_; clear n0_ n1_ n2_; (try clear hb); (try clear hb2); (try clear hk); (try clear hi); have hcz44_0 : w43.cell? ⟨gb289, 0, none⟩ = some (.int .i64 (Go.bits .and .i64 (wrap64 (bt a0 x6_1)) 127)) := (blk_cell BK289.out 0).trans rfl; have hcz44_1 : w43.cell? ⟨gb289, 1, none⟩ = some (.string (a0.extract ((ji12) : Int).toNat ((wrap64 ((ji12) + t288)) : Int).toNat)) := (blk_cell BK289.out 1).trans rfl; have hfz44_0 := blk_frozen BK289.out 0; have hfz44_1 := blk_frozen BK289.out 1) | ((with_reducible refine gate_builtin (b := .append) (xs := #[.tmp 77, .tmp 79]) rfl ?_); at_builtin; refine Kd.R_append k36 (w0 := w) w.heap.size rfl (.tmp 77) (.tmp 79) 40 36 (.agg #[(.int .i64 0), (.string ⟨#[]⟩)]) 24 rfl Try.underlying40 info36 rfl (by decide) (by omega) (.slice Ao41 x5_1.length co41) x5_1 (⟨(Go.bits .and .i64 (wrap64 (bt a0 x6_1)) 127), (a0.extract ((ji12) : Int).toNat ((wrap64 ((ji12) + t288)) : Int).toNat)⟩ : S36) [.int .i64 (Go.bits .and .i64 (wrap64 (bt a0 x6_1)) 127), .string (a0.extract ((ji12) : Int).toNat ((wrap64 ((ji12) + t288)) : Int).toNat)] (fun k_ => k_ ≠ gb289) (fun _ => False) rfl rfl ?aP (fun _ hk => hk.elim) ?aF ?aO ?aB ?aS ?aL ?_; (case aP => exact k36_mkM _ _ _ (⟨(Go.bits .and .i64 (wrap64 (bt a0 x6_1)) 127), (a0.extract ((ji12) : Int).toNat ((wrap64 ((ji12) + t288)) : Int).toNat)⟩ : S36)); (case aB => exact (by repeat (first | (with_reducible first | exact HB.out | apply below_alloc | apply pw_below_drewN | apply below_drew1 | refine below_set ?_ GE289.out) | exact HB.out))); (case aF => exact (fun k_ hk => Kd.freshB (g := gb289) (o := .cells #[.int .i64 (Go.bits .and .i64 (wrap64 (bt a0 x6_1)) 127), .string (a0.extract ((ji12) : Int).toNat ((wrap64 ((ji12) + t288)) : Int).toNat)] 36 (0, 0)) (by (with_reducible repeat (first | refine blk_drewN ?_ _ | refine blk_drew ?_ | refine blk_alloc ?_ _)); exact BK289.out) k_ hk)); (case aO => exact (by (with_reducible repeat (first | apply Kd.R_alloc | apply Kd.R_drewN | apply Kd.R_drew)); exact HO_5.out)); (case aS => exact (below_size (by repeat (first | (with_reducible first | exact HB.out | apply below_alloc | apply pw_below_drewN | apply below_drew1 | refine below_set ?_ GE289.out) | exact HB.out)))); (case aL => have := LMc34.out; omega); intro v292 w45 ho hb hg hat; rw [← Ny291.out] at ho; have n0_ := Aside0.mk (blk_grown (g := gb289) (o := .cells #[.int .i64 (Go.bits .and .i64 (wrap64 (bt a0 x6_1)) 127), .string (a0.extract ((ji12) : Int).toNat ((wrap64 ((ji12) + t288)) : Int).toNat)] 36 (0, 0)) (by (with_reducible repeat (first | refine blk_drewN ?_ _ | refine blk_drew ?_ | refine blk_alloc ?_ _)); exact BK289.out) hg (Kd.R_away HO_5.out (fun _ hk => hk))); have n1_ := Aside0.mk (hb); have n2_ := Aside0.mk (ho); clear BK289; clear HB; clear HO_5; have BK289 := n0_; have HB := n1_; have HO293 := n2_; clear n0_ n1_ n2_; clear ho hb hg hat)))
                                            go_roundg kj19
                                            case measure => have := HK1.out; have := HJ15.out; have := HJ19.out; omega
                                            case rel => exact ⟨(y291), ((wrap64 ((ji12) + t288))), (x7_15), (by first | rfl | (simp; done) | (simp only [← hji12] <;> (first | rfl | simp)) | (simp [*]; done)), (by first | rfl | (simp; done) | (simp [*]; done)), H', ⟨by have := HK1.out; have := HJ15.out; have := HJ19.out; omega⟩, ⟨by (with_reducible repeat (first | apply Kd.R_alloc | apply Kd.R_drewN | apply Kd.R_drew)); exact Kd.R_mono HO293.out (fun _ hk => trivial)⟩, ⟨by repeat (first | (with_reducible first | exact HB.out | apply below_alloc | apply pw_below_drewN | apply below_drew1 | refine below_set ?_ GE289.out) | exact HB.out)⟩⟩
                                        · rw [if_neg c34] at H
                                          exact absurd H (by simp)
                                      · rw [if_neg c33] at H
                                        have c33b0 : (t290 == 0) = false := beq_eq_false_iff_ne.mpr c33
                                        have c33b1 : (t290 != 0) = true := bne_iff_ne.mpr c33
                                        simp only [Option.some.injEq, Prod.mk.injEq] at H
                                        obtain ⟨rfl, rfl, rfl⟩ := H
                                        obtain ⟨Ao46, co46, eo46⟩ := Kd.R_slice HO_5.out
                                        subst eo46
                                        have hcz47_0 : wc.cell? ⟨gb289, 0, none⟩ = some (.int .i64 (Go.bits .and .i64 (wrap64 (bt a0 x6_1)) 127)) := (blk_cell BK289.out 0).trans rfl
                                        have hcz47_1 : wc.cell? ⟨gb289, 1, none⟩ = some (.string (a0.extract ((ji12) : Int).toNat ((wrap64 ((ji12) + t288)) : Int).toNat)) := (blk_cell BK289.out 1).trans rfl
                                        have hfz47_0 := blk_frozen BK289.out 0
                                        have hfz47_1 := blk_frozen BK289.out 1
                                        go_wp2_with (first | (go_at_call 14; (with_reducible refine (lacquerref13_Check.calls kj19 (Go.bits .and .i64 (wrap64 (bt a0 x6_1)) 127) (a0.extract ((ji12) : Int).toNat ((wrap64 ((ji12) + t288)) : Int).toNat) t290 _ A32.out).mono ?_); rintro e w48 ⟨rfl, hb⟩; have n0_ := Aside0.mk (Kd.R_below (by (with_reducible repeat (first | apply Kd.R_alloc | apply Kd.R_drewN | apply Kd.R_drew)); exact HO_5.out) hb); have n1_ := Aside0.mk (blk_below (g := gb289) (o := .cells #[.int .i64 (Go.bits .and .i64 (wrap64 (bt a0 x6_1)) 127), .string (a0.extract ((ji12) : Int).toNat ((wrap64 ((ji12) + t288)) : Int).toNat)] 36 (0, 0)) (by (with_reducible repeat (first | refine blk_drewN ?_ _ | refine blk_drew ?_ | refine blk_alloc ?_ _)); exact BK289.out) hb); have n2_ := Aside0.mk (below_step (by repeat (first | (with_reducible first | exact HB.out | apply below_alloc | apply pw_below_drewN | apply below_drew1 | refine below_set ?_ GE289.out) | exact HB.out)) hb); clear HO_5; clear BK289; clear HB; have HO_5 := n0_; have BK289 := n1_; have HB := n2_; clear n0_ n1_ n2_; (try clear hb); (try clear hb2); (try clear hk); (try clear hi)))
                                        repeat (go_quiet (first | (go_at_call 14; (with_reducible refine (lacquerref13_Check.calls kj19 (Go.bits .and .i64 (wrap64 (bt a0 x6_1)) 127) (a0.extract ((ji12) : Int).toNat ((wrap64 ((ji12) + t288)) : Int).toNat) t290 _ A32.out).mono ?_); rintro e w48 ⟨rfl, hb⟩; have n0_ := Aside0.mk (Kd.R_below (by (with_reducible repeat (first | apply Kd.R_alloc | apply Kd.R_drewN | apply Kd.R_drew)); exact HO_5.out) hb); have n1_ := Aside0.mk (blk_below (g := gb289) (o := .cells #[.int .i64 (Go.bits .and .i64 (wrap64 (bt a0 x6_1)) 127), .string (a0.extract ((ji12) : Int).toNat ((wrap64 ((ji12) + t288)) : Int).toNat)] 36 (0, 0)) (by (with_reducible repeat (first | refine blk_drewN ?_ _ | refine blk_drew ?_ | refine blk_alloc ?_ _)); exact BK289.out) hb); have n2_ := Aside0.mk (below_step (by repeat (first | (with_reducible first | exact HB.out | apply below_alloc | apply pw_below_drewN | apply below_drew1 | refine below_set ?_ GE289.out) | exact HB.out)) hb); clear HO_5; clear BK289; clear HB; have HO_5 := n0_; have BK289 := n1_; have HB := n2_; clear n0_ n1_ n2_; (try clear hb); (try clear hb2); (try clear hk); (try clear hi))); try go_wp2_with (first | (go_at_call 14; (with_reducible refine (lacquerref13_Check.calls kj19 (Go.bits .and .i64 (wrap64 (bt a0 x6_1)) 127) (a0.extract ((ji12) : Int).toNat ((wrap64 ((ji12) + t288)) : Int).toNat) t290 _ A32.out).mono ?_); rintro e w48 ⟨rfl, hb⟩; have n0_ := Aside0.mk (Kd.R_below (by (with_reducible repeat (first | apply Kd.R_alloc | apply Kd.R_drewN | apply Kd.R_drew)); exact HO_5.out) hb); have n1_ := Aside0.mk (blk_below (g := gb289) (o := .cells #[.int .i64 (Go.bits .and .i64 (wrap64 (bt a0 x6_1)) 127), .string (a0.extract ((ji12) : Int).toNat ((wrap64 ((ji12) + t288)) : Int).toNat)] 36 (0, 0)) (by (with_reducible repeat (first | refine blk_drewN ?_ _ | refine blk_drew ?_ | refine blk_alloc ?_ _)); exact BK289.out) hb); have n2_ := Aside0.mk (below_step (by repeat (first | (with_reducible first | exact HB.out | apply below_alloc | apply pw_below_drewN | apply below_drew1 | refine below_set ?_ GE289.out) | exact HB.out)) hb); clear HO_5; clear BK289; clear HB; have HO_5 := n0_; have BK289 := n1_; have HB := n2_; clear n0_ n1_ n2_; (try clear hb); (try clear hb2); (try clear hk); (try clear hi))))
                                        go_ret3
                                        exact ⟨_, by first | rfl | (simp [errW_none, errW_some] <;> rfl) | (simp only [← hji6, ← hji12]; first | rfl | (simp [errW_none, errW_some] <;> rfl)) | (simp [*, errW_none, errW_some] <;> rfl), by first | exact Kd.R_nil _ _ _ _ _ | exact Kd.N_nil _ _ _ _ _ | exact Kd.V_nil _ _ _ _ _ | exact Kd.Q_nil _ _ _ _ _ | exact Kd.S_nil _ _ _ _ _, by repeat (first | (with_reducible first | exact HB.out | apply below_alloc | apply pw_below_drewN | apply below_drew1 | refine below_set ?_ GE289.out) | exact HB.out)⟩
                        · rw [if_neg c15] at H
                          exact absurd H (by simp)
                      · rw [if_neg c14] at H
                        exact absurd H (by simp)
                    · rw [if_neg c13] at H
                      exact absurd H (by simp)
                · rw [if_neg c9] at H
                  exact absurd H (by simp)
              · rw [if_neg c8] at H
                exact absurd H (by simp)
            · rw [if_neg c7] at H
              exact absurd H (by simp)
          · rw [if_neg c4] at H
            exact absurd H (by simp)
        · rw [if_neg c3] at H
          exact absurd H (by simp)

/-! ### lacquerlaw13_MetaParses: function 5 -/

/-! ### lacquerref02_fits: function 51 -/
def lacquerref02_fits.f (a0 : Int) (a1 : Int) : Option (Bool) := if a1 ≥ 1 then (if a1 ≤ 8 then (if a0 ≥ 0 then (if a1 = 8 then (some true) else (if 0 ≤ (IntKind.u64.wrap (wrap64 (8 * a1))) then (some ((shr .i64 a0 (IntKind.u64.wrap (wrap64 (8 * a1)))) == 0)) else (none))) else (some false)) else (some false)) else (some false)
set_option maxHeartbeats 8000000 in
set_option maxRecDepth 100000 in
theorem lacquerref02_fits.calls (a0 : Int) (a1 : Int) (r : Bool) (w : World) (h : lacquerref02_fits.f a0 a1 = some r) :
    Calls Try.prog 51 #[.int .i64 a0, .int .i64 a1] w fun e w' => e = .returned (.bool r) ∧ Drawn0 w w' := by
  have H : (if a1 ≥ 1 then (if a1 ≤ 8 then (if a0 ≥ 0 then (if a1 = 8 then (some true) else (if 0 ≤ (IntKind.u64.wrap (wrap64 (8 * a1))) then (some ((shr .i64 a0 (IntKind.u64.wrap (wrap64 (8 * a1)))) == 0)) else (none))) else (some false)) else (some false)) else (some false)) = some r := h
  clear h
  by_cases c3 : a1 ≥ 1
  · rw [if_pos c3] at H
    have c3b0 : decide (1 ≤ a1) = true := decide_eq_true c3
    clear c3
    by_cases c4 : a1 ≤ 8
    · rw [if_pos c4] at H
      have c4b0 : decide (a1 ≤ 8) = true := decide_eq_true c4
      clear c4
      by_cases c5 : a0 ≥ 0
      · rw [if_pos c5] at H
        have c5b0 : decide (0 ≤ a0) = true := decide_eq_true c5
        clear c5
        by_cases c6 : a1 = 8
        · rw [if_pos c6] at H
          have c6b0 : (a1 == 8) = true := beq_iff_eq.mpr c6
          have c6b1 : (a1 != 8) = false := bne_eq_false_iff_eq.mpr c6
          clear c6
          obtain rfl := Option.some.inj H
          go_enter Try.func51, Try.ntmps51
          go_wp2
          go_ret
          exact ⟨by first | rfl | (simp; done) | (simp [*]; done), by repeat (first | exact Drawn0.refl _ | apply Drawn0.step)⟩
        · rw [if_neg c6] at H
          have c6b0 : (a1 == 8) = false := beq_eq_false_iff_ne.mpr c6
          have c6b1 : (a1 != 8) = true := bne_iff_ne.mpr c6
          obtain ⟨ji7, hji7⟩ : ∃ j_ : Int, (IntKind.u64.wrap (wrap64 (8 * a1))) = j_ := ⟨_, rfl⟩
          replace H : (if 0 ≤ (ji7) then (some ((shr .i64 a0 (ji7)) == 0)) else (none)) = some r := by first | (rw [hji7] at H; exact H) | (simp only [hji7] at H ⊢; exact H)
          by_cases c8 : 0 ≤ (ji7)
          · rw [if_pos c8] at H
            have c8b0 := eq_true c8
            have c8b1 : decide (0 ≤ (ji7)) = true := decide_eq_true c8
            clear c8
            obtain ⟨ji9, hji9⟩ : ∃ j_ : Int, (shr .i64 a0 (ji7)) = j_ := ⟨_, rfl⟩
            replace H : (some ((ji9) == 0)) = some r := by first | (rw [hji9] at H; exact H) | (simp only [hji9] at H ⊢; exact H)
            have hji9_ : (a0 / 2 ^ min (ji7).toNat 64) = ji9 := hji9
            have hji9z : (ji7) ≤ 64 → (a0 / 2 ^ (ji7).toNat) = ji9 := shr_small hji9
            obtain rfl := Option.some.inj H
            go_enter Try.func51, Try.ntmps51
            go_wp2
            go_ret
            exact ⟨by first | rfl | (simp; done) | (simp only [← hji7, ← hji9] <;> (first | rfl | simp)) | (simp [*]; done), by repeat (first | exact Drawn0.refl _ | apply Drawn0.step)⟩
          · rw [if_neg c8] at H
            exact absurd H (by simp)
      · rw [if_neg c5] at H
        have c5b0 : decide (0 ≤ a0) = false := decide_eq_false c5
        clear c5
        obtain rfl := Option.some.inj H
        go_enter Try.func51, Try.ntmps51
        go_wp2
        go_ret
        exact ⟨by first | rfl | (simp; done) | (simp [*]; done), by repeat (first | exact Drawn0.refl _ | apply Drawn0.step)⟩
    · rw [if_neg c4] at H
      have c4b0 : decide (a1 ≤ 8) = false := decide_eq_false c4
      clear c4
      obtain rfl := Option.some.inj H
      go_enter Try.func51, Try.ntmps51
      go_wp2
      go_ret
      exact ⟨by first | rfl | (simp; done) | (simp [*]; done), by repeat (first | exact Drawn0.refl _ | apply Drawn0.step)⟩
  · rw [if_neg c3] at H
    have c3b0 : decide (1 ≤ a1) = false := decide_eq_false c3
    clear c3
    obtain rfl := Option.some.inj H
    go_enter Try.func51, Try.ntmps51
    go_wp2
    go_ret
    exact ⟨by first | rfl | (simp; done) | (simp [*]; done), by repeat (first | exact Drawn0.refl _ | apply Drawn0.step)⟩

/-! ### lacquerref02_Be: function 49 -/
def lacquerref02_Be.l0 : Nat → Int → List Int → Int → Option (ByteArray × Int)
  | 0, _, _, _ => none
  | k + 1, x0, x6, x7 => if x7 ≥ 0 then (if 0 ≤ x7 then (if x7 < (x6.length : Int) then (lacquerref02_Be.l0 k (x0 / 256) (x6.set (x7 : Int).toNat ((Go.bits .and .i64 x0 255) % 256)) (wrap64 (x7 - 1))) else (none)) else (none)) else (some (strOfNums x6, 0))
def lacquerref02_Be.f (k : Nat) (a0 : Int) (a1 : Int) : Option (ByteArray × Int) := (lacquerref02_fits.f a0 a1).bind fun t306 => (if t306 = true then (if 0 ≤ a1 then (if (a1 : Int).toNat ≤ 281474976710656 then (lacquerref02_Be.l0 k a0 (List.replicate (a1 : Int).toNat 0) (wrap64 (a1 - 1))) else (none)) else (none)) else (some ((⟨#[]⟩ : ByteArray), 11)))
theorem lacquerref02_Be.mono_l : ∀ k, (∀ y0 y1 y2, LeO (lacquerref02_Be.l0 k y0 y1 y2) (lacquerref02_Be.l0 (k + 1) y0 y1 y2))
  | 0 => fun _ _ _ r h => by simp [lacquerref02_Be.l0] at h
  | k + 1 => by
    have ih0 := lacquerref02_Be.mono_l k
    · intro y0 y1 y2
      unfold lacquerref02_Be.l0
      repeat' first
      | (with_reducible exact ih0 _ _ _)
      | (with_reducible exact LeO.refl _)
      | (with_reducible exact LeO.none _)
      | (with_reducible refine LeO.ite ?_ ?_)
      | (with_reducible refine LeO.bind ?_ (fun _ => ?_))
      | exact ih0 _ _ _
      | exact LeO.none _
      | refine LeO.ite ?_ ?_
      | refine LeO.bind ?_ (fun _ => ?_)
theorem lacquerref02_Be.mono : ∀ a0 a1 k, LeO (lacquerref02_Be.f k a0 a1) (lacquerref02_Be.f (k + 1) a0 a1) := by
  intro a0 a1 k
  have ih0 := lacquerref02_Be.mono_l k
  unfold lacquerref02_Be.f
  repeat' first
      | (with_reducible exact ih0 _ _ _)
      | (with_reducible exact LeO.refl _)
      | (with_reducible exact LeO.none _)
      | (with_reducible refine LeO.ite ?_ ?_)
      | (with_reducible refine LeO.bind ?_ (fun _ => ?_))
      | exact ih0 _ _ _
      | exact LeO.none _
      | refine LeO.ite ?_ ?_
      | refine LeO.bind ?_ (fun _ => ?_)
set_option maxHeartbeats 8000000 in
set_option maxRecDepth 100000 in
theorem lacquerref02_Be.calls (k : Nat) (a0 : Int) (a1 : Int) (r1 : ByteArray) (r2 : Int) (w : World) (h : lacquerref02_Be.f k a0 a1 = some (r1, r2)) :
    Calls Try.prog 49 #[.int .i64 a0, .int .i64 a1] w fun e w' => e = .returned (.tuple #[.string r1, .int .i64 r2]) ∧ Below w.heap.size w w' := by
  have HB := Aside0.mk (Below.refl w.heap.size w)
  have H : ((lacquerref02_fits.f a0 a1).bind fun t306 => (if t306 = true then (if 0 ≤ a1 then (if (a1 : Int).toNat ≤ 281474976710656 then (lacquerref02_Be.l0 k a0 (List.replicate (a1 : Int).toNat 0) (wrap64 (a1 - 1))) else (none)) else (none)) else (some ((⟨#[]⟩ : ByteArray), 11)))) = some (r1, r2) := h
  clear h
  replace H := Option.bind_eq_some_iff.mp H
  obtain ⟨t306, A30, H⟩ := H
  replace H : (if t306 = true then (if 0 ≤ a1 then (if (a1 : Int).toNat ≤ 281474976710656 then (lacquerref02_Be.l0 k a0 (List.replicate (a1 : Int).toNat 0) (wrap64 (a1 - 1))) else (none)) else (none)) else (some ((⟨#[]⟩ : ByteArray), 11))) = some (r1, r2) := H
  have A3 := Aside0.mk A30
  clear A30
  by_cases c4 : t306 = true
  · subst c4
    have H1 : (if 0 ≤ a1 then (if (a1 : Int).toNat ≤ 281474976710656 then (lacquerref02_Be.l0 k a0 (List.replicate (a1 : Int).toNat 0) (wrap64 (a1 - 1))) else (none)) else (none)) = some (r1, r2) := by rw [if_pos rfl] at H; exact H
    clear H
    have H := H1
    clear H1
    by_cases c5 : 0 ≤ a1
    · rw [if_pos c5] at H
      have c5b0 := eq_true c5
      have c5b1 : decide (0 ≤ a1) = true := decide_eq_true c5
      clear c5
      by_cases c6 : (a1 : Int).toNat ≤ 281474976710656
      · rw [if_pos c6] at H
        have c6b0 := eq_true c6
        have c6b1 : decide ((a1 : Int).toNat ≤ 281474976710656) = true := decide_eq_true c6
        clear c6
        obtain ⟨y307, hy307⟩ : ∃ y_ : List Int, y_ = (List.replicate (a1 : Int).toNat 0) := ⟨_, rfl⟩
        replace H : (lacquerref02_Be.l0 k a0 y307 (wrap64 (a1 - 1))) = some (r1, r2) := by first | (rw [hy307]; with_reducible exact H) | (have H2_ := (Option.bind_some _ _).symm.trans H; rw [hy307]; with_reducible exact H2_) | (have H2_ := (Option.bind_some _ _).symm.trans H; with_reducible exact H2_) | with_reducible exact H | (rw [hy307]; exact H) | exact H
        have Ny307 := Aside0.mk hy307
        clear hy307
        have H' := Aside0.mk H
        clear H
        go_enter Try.func49, Try.ntmps49
        go_wp2_with (first | ((with_reducible refine gate_callee (f := 51) rfl ?_); refine goesL_ (some 10) rfl rfl Try.func51 (by kernel_rfl) rfl #[.int .i64 a0, .int .i64 a1] rfl (by (try simp only [List.map_toArray, List.map_cons, List.map_nil]); first | done | rfl | (simp only [List.length_drop, List.length_take]; rfl)) ?_; (with_reducible refine (lacquerref02_fits.calls a0 a1 true _ A3.out).mono ?_); rintro e w' ⟨rfl, ⟨nd, rfl⟩⟩; refine ⟨_, rfl, ?_⟩) | ((with_reducible refine gate_dst (N := 13) rfl ?_); refine Kd.R_make (Kd.int .u8) _ 5 rfl (N := 13) rfl 68 _ _ rfl a1 rfl rfl Try.underlying68 (.int .u8 0) 1 info5 rfl (by decide) (by omega) 0 (ok := fun _ => True) (okp := fun _ => True) rfl (fun _ hk => hk) trivial (of_decide_eq_true (by first | (with_reducible assumption) | assumption)) (Nat.le_trans (Nat.mul_le_mul_right _ (of_decide_eq_true (by first | (with_reducible assumption) | assumption) : a1.toNat ≤ 281474976710656)) (by omega)) (Below.refl _ _) (Nat.le_refl _) ?_; intro v308 w7 ho8 hb hg_ hnew_; clear hg_ hnew_; (first | rw [← Ny307.out] at ho8 | (simp only [Int.reduceToNat] at ho8; rw [← Ny307.out] at ho8)); have n0_ := Aside0.mk (Kd.R_lower ho8 (below_size (by repeat (first | (with_reducible first | exact HB.out | apply below_alloc | apply pw_below_drewN | apply below_drew1) | exact HB.out)))); have n1_ := Aside0.mk (below_step (by repeat (first | (with_reducible first | exact HB.out | apply below_alloc | apply pw_below_drewN | apply below_drew1) | exact HB.out)) hb); clear HB; have HO309 := n0_; have HB := n1_; clear n0_ n1_; clear hb ho8))
        go_loopg [0, 7] k (fun kq v0 v7 w' => ∃ (x0_1 : Int) (x6_1 : List Int) (x7_1 : Int), v0 = .int .i64 x0_1 ∧ v7 = .int .i64 x7_1 ∧ Aside0 (lacquerref02_Be.l0 kq x0_1 x6_1 x7_1 = some (r1, r2)) ∧ Aside0 (kq ≤ k) ∧ Aside0 (Kd.R (Kd.int .u8) 5 w' w.heap.size (fun _ => True) v308 x6_1) ∧ Aside0 (Below w.heap.size w w'))
        case atStart => exact ⟨(a0), (y307), (wrap64 (a1 - 1)), (by first | rfl | (simp; done) | (simp [*]; done)), (by first | rfl | (simp; done) | (simp [*]; done)), H', ⟨Nat.le_refl _⟩, ⟨by (with_reducible repeat (first | apply Kd.R_alloc | apply Kd.R_drewN | apply Kd.R_drew)); exact HO309.out⟩, ⟨by repeat (first | (with_reducible first | exact HB.out | apply below_alloc | apply pw_below_drewN | apply below_drew1) | exact HB.out)⟩⟩
        case round =>
          clear H'
          try clear p2
          try clear c4
          try clear c5
          try clear c5b0
          try clear c5b1
          try clear c6
          try clear c6b0
          try clear c6b1
          try clear p6
          obtain ⟨x0_1, x6_1, x7_1, rfl, rfl, HA, HK1, HO_6, HB⟩ := hrel
          cases gk with
          | zero => exact absurd HA.out (by simp [lacquerref02_Be.l0])
          | succ k1 =>
            have H := HA.out
            clear HA
            simp only [lacquerref02_Be.l0] at H
            by_cases c9 : x7_1 ≥ 0
            · rw [if_pos c9] at H
              have c9b0 : decide (0 ≤ x7_1) = true := decide_eq_true c9
              clear c9
              by_cases c10 : 0 ≤ x7_1
              · rw [if_pos c10] at H
                have c10b0 : decide (0 ≤ x7_1) = true := decide_eq_true c10
                clear c10
                by_cases c11 : x7_1 < (x6_1.length : Int)
                · rw [if_pos c11] at H
                  have c11b0 : decide (x7_1 < (x6_1.length : Int)) = true := decide_eq_true c11
                  clear c11
                  obtain ⟨y310, hy310⟩ : ∃ y_ : List Int, y_ = (x6_1.set (x7_1 : Int).toNat ((Go.bits .and .i64 x0_1 255) % 256)) := ⟨_, rfl⟩
                  replace H : (lacquerref02_Be.l0 k1 (x0_1 / 256) y310 (wrap64 (x7_1 - 1))) = some (r1, r2) := by first | (rw [hy310]; with_reducible exact H) | (have H2_ := (Option.bind_some _ _).symm.trans H; rw [hy310]; with_reducible exact H2_) | (have H2_ := (Option.bind_some _ _).symm.trans H; with_reducible exact H2_) | with_reducible exact H | (rw [hy310]; exact H) | exact H
                  have Ny310 := Aside0.mk hy310
                  clear hy310
                  have H' := Aside0.mk H
                  clear H
                  have p12 : 0 ≤ (x7_1 : Int) := of_decide_eq_true (by first | (with_reducible assumption) | assumption)
                  have q12 : (x7_1 : Int) < ((x6_1.length : Int) : Int) := of_decide_eq_true (by first | (with_reducible assumption) | assumption)
                  obtain ⟨go12, co12, eo12, gb12, gl12, cl12, HG12⟩ := Kd.R_form HO_6.out (by omega)
                  (first | cases eo12 | (injection eo12 with ea_ en_ ec_; (first | subst ea_ | (injection ea_ with ea_; subst ea_)); subst ec_; clear en_))
                  have GB12 := Aside0.mk gb12
                  have GG12 := Aside0.mk HG12
                  clear gb12 gl12 HG12
                  obtain ⟨hx12_0, hf12_0⟩ := Kd.R_celln 0 HO_6.out (x7_1 : Int) p12 q12
                  replace p12 := eq_true p12
                  replace q12 := eq_true q12
                  have HP13 := Kd.R_putg HO_6.out (x7_1 : Int) ((Go.bits .and .i64 x0_1 255) % 256)
                  go_wp2_with (first | ((with_reducible refine gate_store (t := 5) (p := 25) rfl ?_); refine store_event (t := 5) (p := 25) (v := ?vo_w14) (w1 := (wr.setCell ⟨go12, (x7_1 : Int).toNat, none⟩ (.int .u8 ((Go.bits .and .i64 x0_1 255) % 256)))) ?hg ?ho ?hn ?hr ?_; (case ho => rfl); (case hg => rfl); (case hn => rfl); (case hr => first | (go_simp; done) | (go_simp; rfl)); intro w14 hw; have hg : wr.grownBy w14 (some go12) := (by rw [hw]; exact HP13.2); have hp_ : Kd.R (Kd.int .u8) 5 w14 w.heap.size (fun _ => True) (.slice (some ⟨go12, 0, none⟩) x6_1.length co12) y310 := (by rw [hw, Ny310.out]; exact HP13.1); clear HP13; have n0_ := Aside0.mk (hp_); have n1_ := Aside0.mk ((by rw [hw]; exact below_set (HB.out) GB12.out : Below w.heap.size w w14)); clear HO_6; clear HB; have HO_6 := n0_; have HB := n1_; clear n0_ n1_; clear hg hw hp_))
                  go_roundg k1
                  case measure => have := HK1.out; omega
                  case rel => exact ⟨(x0_1 / 256), (y310), (wrap64 (x7_1 - 1)), (by first | rfl | (simp; done) | (simp [*]; done)), (by first | rfl | (simp; done) | (simp [*]; done)), H', ⟨by have := HK1.out; omega⟩, ⟨by (with_reducible repeat (first | apply Kd.R_alloc | apply Kd.R_drewN | apply Kd.R_drew)); exact HO_6.out⟩, ⟨by repeat (first | (with_reducible first | exact HB.out | apply below_alloc | apply pw_below_drewN | apply below_drew1) | exact HB.out)⟩⟩
                · rw [if_neg c11] at H
                  exact absurd H (by simp)
              · rw [if_neg c10] at H
                exact absurd H (by simp)
            · rw [if_neg c9] at H
              have c9b0 : decide (0 ≤ x7_1) = false := decide_eq_false c9
              clear c9
              simp only [Option.some.injEq, Prod.mk.injEq] at H
              obtain ⟨rfl, rfl⟩ := H
              have hcv15 := own_string (P := Try.prog) Try.underlying68 Try.underlying5 Try.underlying9 (Kd.own_of_R HO_6.out)
              go_wp2
              go_ret2
              exact ⟨by first | rfl | (simp [errW_none, errW_some] <;> rfl) | (simp [*, errW_none, errW_some] <;> rfl), by repeat (first | (with_reducible first | exact HB.out | apply below_alloc | apply pw_below_drewN | apply below_drew1) | exact HB.out)⟩
      · rw [if_neg c6] at H
        exact absurd H (by simp)
    · rw [if_neg c5] at H
      exact absurd H (by simp)
  · replace c4 := Bool.eq_false_iff.mpr c4
    subst c4
    have H1 : (some ((⟨#[]⟩ : ByteArray), 11)) = some (r1, r2) := by rw [if_neg (show ¬ (false = true) by decide)] at H; exact H
    clear H
    have H := H1
    clear H1
    simp only [Option.some.injEq, Prod.mk.injEq] at H
    obtain ⟨rfl, rfl⟩ := H
    go_enter Try.func49, Try.ntmps49
    go_wp2_with (first | ((with_reducible refine gate_callee (f := 51) rfl ?_); refine goesL_ (some 10) rfl rfl Try.func51 (by kernel_rfl) rfl #[.int .i64 a0, .int .i64 a1] rfl (by (try simp only [List.map_toArray, List.map_cons, List.map_nil]); first | done | rfl | (simp only [List.length_drop, List.length_take]; rfl)) ?_; (with_reducible refine (lacquerref02_fits.calls a0 a1 false _ A3.out).mono ?_); rintro e w' ⟨rfl, ⟨nd, rfl⟩⟩; refine ⟨_, rfl, ?_⟩))
    go_ret2
    exact ⟨by first | rfl | (simp [errW_none, errW_some] <;> rfl) | (simp [*, errW_none, errW_some] <;> rfl), by repeat (first | (with_reducible first | exact HB.out | apply below_alloc | apply pw_below_drewN | apply below_drew1) | exact HB.out)⟩

end Go.Proofs.Ytgihacaegmpggaa.R
