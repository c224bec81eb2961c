/- Contracts of layer 9, proved by hand, the third part. -/
import Derived.Test.YtbbedocehejfgaaHandB
namespace Go.Proofs.Ytbbedocehejfgaa.Hand
open Go.RowKit Go.Proofs.YtbbedocehejfgaaW.PrintWords Go.Proofs.YtbbedocehejfgaaW.PrintLast Go.Proofs.YtbbedocehejfgaaW.PrintMore
set_option linter.unusedVariables false
set_option linter.unusedSimpArgs false

set_option maxHeartbeats 2000000 in
set_option maxRecDepth 100000 in
theorem whole_any (coefs warm l : List Int) (shift : Int) (v : Value) (A1 A2 : Option Addr) (c1 c2 : Nat) (w : World) (hv : Clo w v coefs shift)
    (hw : ReadsInt w .i64 A1 warm.length warm) (hl : ReadsInt w .i64 A2 l.length l) (hn : coefs.length ≤ warm.length) (hs : 0 ≤ shift) (hs2 : shift ≤ 31) (hb : (warm.length + l.length) * 8 ≤ 140737488355328) :
    Calls Try.prog 34 #[v, .slice A1 warm.length c1, .slice A2 l.length c2] w fun e w' => ∃ v0, e = .returned v0 ∧
      Kd.R (Kd.int .i64) 3 w' w.heap.size (fun _ => True) v0 (wholeTo coefs shift warm l l.length) ∧ Below w.heap.size w w' := by
  have HV := Aside0.mk hv
  have HL := Aside0.mk hl
  have HW := Aside0.mk hw
  have hmax := hl.2.1
  clear hl hw
  obtain ⟨ga, gs, A, c, rfl, hv2⟩ := hv
  clear hv2
  go_enter Try.func34, Try.ntmps34
  go_wp2_with fail
  refine (clone_any warm A1 c1 _ HW.out (by omega)).mono ?_
  rintro e w1 ⟨v0, rfl, hR, hB⟩
  have HR := Aside0.mk hR
  have HB0 := Aside0.mk hB
  clear hR hB
  go_wp2
  go_loopw [7, 14] (fun o i wr => ∃ d : Nat, d ≤ l.length ∧ i = .int .i64 d ∧ Aside0 (Kd.R (Kd.int .i64) 3 wr w.heap.size (fun _ => True) o (wholeTo coefs shift warm l d)) ∧ Aside0 (Below w.heap.size w wr)) (fun _ i _ => l.length - (intOf i).toNat)
  case atStart => exact ⟨0, by omega, rfl, HR, HB0⟩
  case round =>
    clear HR HB0
    obtain ⟨d, hd, rfl, HO, HB⟩ := hrel
    by_cases hlt : d < l.length
    · have i1 : (d : Int) < (l.length : Int) := by omega
      obtain ⟨ad, rfl, hx⟩ := HL.out.at_ (d : Int) (by omega) i1
      rw [Int.toNat_natCast] at hx
      replace hx := (HB.out.cell (World.block_lt_of_cell? w _ hx)).trans hx
      generalize hx1 : rd l (d : Int) = x1 at hx
      have HX := Aside0.mk hx1
      clear hx1
      obtain ⟨A3, c3, rfl, hc3, hC3⟩ := Kd.R_reads HO.out
      have HC3 := Aside0.mk (Kd.reads_of_C (d := (0 : Int)) (enc := Value.int .i64) hC3)
      clear hC3 hc3
      obtain ⟨ga', gs', A1', c1', e1, f1, f2, f3, f4⟩ := HV.out.below HB.out
      injection e1 with _ _ e1
      simp only [Array.mk.injEq, List.cons.injEq, Value.pointer.injEq, Option.some.injEq, Addr.mk.injEq, and_true, true_and] at e1
      obtain ⟨rfl, rfl⟩ := e1
      have hll := wholeTo_length coefs shift warm l d
      obtain ⟨n, hnn⟩ : ∃ n, (wholeTo coefs shift warm l d).length = n := ⟨_, rfl⟩
      have HN := Aside0.mk hnn
      have HLL := Aside0.mk hll
      have hcall : Calls Try.prog 47 #[.slice A3 n c3, .pointer (some ⟨ga, 0, none⟩), .pointer (some ⟨gs, 0, none⟩)] wr fun e w' => e = .returned (.int .i64 (foretell coefs shift (wholeTo coefs shift warm l d))) ∧ wr = w' := by
        rw [← hnn]
        exact of1_any coefs (wholeTo coefs shift warm l d) shift ga gs A1' A3 c1' c3 wr f1 f2 f3 HC3.out (by rw [hll]; omega) hs hs2
      have HC := Aside0.mk hcall
      have hlen : (wholeTo coefs shift warm l d).length < 17592186044416 := by rw [hll]; omega
      have HLEN := Aside0.mk hlen
      clear hcall f1 f2 f3 f4 hll hlen
      rw [hnn] at HO ⊢
      clear hnn
      go_wp2_with (first
        | (go_at_call 47; refine HC.out.mono ?_; rintro e w' ⟨rfl, rfl⟩)
        | (at_builtin; (with_reducible refine app_list (w0 := w) (v := .slice A3 n c3) (xs := wholeTo coefs shift warm l d) (.tmp 18) (.tmp 24) _ ?_ ?_ ?_ ?_ ?_ ?_ ?_ ?_); rfl; rfl; rfl; rfl; exact HO.out; exact HB.out; exact HLEN.out; intro v1 w2 HO1 HB1))
      refine ⟨⟨d + 1, by omega, by go_num, ⟨?_⟩, HB1⟩, by simp [intOf]; omega⟩
      simp only [wholeTo]
      rw [HX.out]
      exact HO1.out
    · obtain rfl : d = l.length := by omega
      go_wp2
      go_ret
      exact ⟨_, rfl, HO.out, HB.out⟩

theorem fixedC_length {order : Int} (h0 : 0 ≤ order) (h4 : order ≤ 4) : ((fixedC order).length : Int) = order := by
  have ho : order = 0 ∨ order = 1 ∨ order = 2 ∨ order = 3 ∨ order = 4 := by omega
  rcases ho with rfl | rfl | rfl | rfl | rfl <;> rfl
/-- What Fixed gives. -/
def fixedF (order : Int) (l : List Int) : List Int × Int :=
  if 0 ≤ order ∧ order ≤ 4 ∧ order ≤ (l.length : Int) then (leftTo (fixedC order) 0 l (fixedC order).length (l.length - (fixedC order).length), 0) else ([], 1)
set_option maxHeartbeats 2000000 in
set_option maxRecDepth 100000 in
theorem Fixed_any (order : Int) (l : List Int) (A : Option Addr) (c : Nat) (w : World) (hl : ReadsInt w .i64 A l.length l) (hc : l.length ≤ c) (hb : l.length * 8 ≤ 140737488355328) :
    Calls Try.prog 10 #[.int .i64 order, .slice A l.length c] w fun e w' => ∃ v0 : Value, e = .returned (.tuple #[v0, .int .i64 (fixedF order l).2]) ∧
      Kd.R (Kd.int .i64) 3 w' w.heap.size (fun _ => True) v0 (fixedF order l).1 ∧ Below w.heap.size w w' := by
  have HL := Aside0.mk hl
  have hmax := hl.2.1
  clear hl
  by_cases h : 0 ≤ order ∧ order ≤ 4 ∧ order ≤ (l.length : Int)
  · obtain ⟨h1, h2, h3⟩ := h
    have HF := Aside0.mk (show fixedF order l = _ from if_pos ⟨h1, h2, h3⟩)
    obtain ⟨n, hn⟩ : ∃ n : Nat, order = n := ⟨order.toNat, by omega⟩
    subst hn
    have hlen := fixedC_length h1 h2
    obtain ⟨cs, hcs⟩ : ∃ cs, fixedC (n : Int) = cs := ⟨_, rfl⟩
    rw [hcs] at hlen HF
    have HCS := Aside0.mk hcs
    clear hcs
    obtain rfl : n = cs.length := by omega
    clear hlen
    go_enter Try.func10, Try.ntmps10
    go_wp2_with fail
    refine (fixed_any _ _ h1 h2).mono ?_
    rintro e w1 ⟨v, rfl, hv, hB⟩
    rw [HCS.out] at hv
    have HV := Aside0.mk hv
    have HB := Aside0.mk hB
    clear hv hB
    go_wp2_with fail
    refine (left_any cs l 0 v A c _ HV.out (HL.out.below HB.out) hc (by omega) (by decide) (by decide) hb).mono ?_
    rintro e w2 ⟨v0, rfl, hR, hB⟩
    have HR := Aside0.mk hR
    have HB1 := Aside0.mk hB
    clear hR hB
    go_wp2
    go_ret2
    rw [HF.out]
    exact ⟨_, rfl, Kd.R_lower HR.out HB.out.size, HB.out.trans (HB1.out.mono HB.out.size)⟩
  · have HF := Aside0.mk (show fixedF order l = _ from if_neg h)
    by_cases h1 : order < 0
    · go_enter Try.func10, Try.ntmps10
      go_wp2
      go_ret2
      rw [HF.out]
      exact ⟨_, rfl, Kd.R_nil _ _ _ _ _, Below.refl _ _⟩
    by_cases h2 : 4 < order
    · go_enter Try.func10, Try.ntmps10
      go_wp2
      go_ret2
      rw [HF.out]
      exact ⟨_, rfl, Kd.R_nil _ _ _ _ _, Below.refl _ _⟩
    have h3 : (l.length : Int) < order := by omega
    go_enter Try.func10, Try.ntmps10
    go_wp2
    go_ret2
    rw [HF.out]
    exact ⟨_, rfl, Kd.R_nil _ _ _ _ _, Below.refl _ _⟩

/-- What Unfixed gives. -/
def unfixedF (order : Int) (warm l : List Int) : List Int × Int :=
  if 0 ≤ order ∧ order ≤ 4 ∧ (warm.length : Int) = order then (wholeTo (fixedC order) 0 warm l l.length, 0) else ([], 1)
set_option maxHeartbeats 2000000 in
set_option maxRecDepth 100000 in
theorem Unfixed_any (order : Int) (warm l : List Int) (A1 A2 : Option Addr) (c1 c2 : Nat) (w : World) (hw : ReadsInt w .i64 A1 warm.length warm) (hl : ReadsInt w .i64 A2 l.length l) (hb : l.length * 8 ≤ 140737488351232) :
    Calls Try.prog 12 #[.int .i64 order, .slice A1 warm.length c1, .slice A2 l.length c2] w fun e w' => ∃ v0 : Value, e = .returned (.tuple #[v0, .int .i64 (unfixedF order warm l).2]) ∧
      Kd.R (Kd.int .i64) 3 w' w.heap.size (fun _ => True) v0 (unfixedF order warm l).1 ∧ Below w.heap.size w w' := by
  have HL := Aside0.mk hl
  have HW := Aside0.mk hw
  have hmax := hl.2.1
  have hmax2 := hw.2.1
  clear hl hw
  by_cases h : 0 ≤ order ∧ order ≤ 4 ∧ (warm.length : Int) = order
  · obtain ⟨h1, h2, h3⟩ := h
    have HF := Aside0.mk (show unfixedF order warm l = _ from if_pos ⟨h1, h2, h3⟩)
    have hlen := fixedC_length h1 h2
    subst h3
    obtain ⟨cs, hcs⟩ : ∃ cs, fixedC (warm.length : Int) = cs := ⟨_, rfl⟩
    rw [hcs] at hlen HF
    have HCS := Aside0.mk hcs
    clear hcs
    have hle : cs.length ≤ warm.length := by omega
    clear hlen
    have hb1 : ((warm.length : Int) != (warm.length : Int)) = false := by simp
    go_enter Try.func12, Try.ntmps12
    go_wp2_with fail
    refine (fixed_any _ _ h1 h2).mono ?_
    rintro e w1 ⟨v, rfl, hv, hB⟩
    rw [HCS.out] at hv
    have HV := Aside0.mk hv
    have HB := Aside0.mk hB
    clear hv hB
    go_wp2_with fail
    refine (whole_any cs warm l 0 v A1 A2 c1 c2 _ HV.out (HW.out.below HB.out) (HL.out.below HB.out) hle (by decide) (by decide) (by omega)).mono ?_
    rintro e w2 ⟨v0, rfl, hR, hB⟩
    have HR := Aside0.mk hR
    have HB1 := Aside0.mk hB
    clear hR hB
    go_wp2
    go_ret2
    rw [HF.out]
    exact ⟨_, rfl, Kd.R_lower HR.out HB.out.size, HB.out.trans (HB1.out.mono HB.out.size)⟩
  · have HF := Aside0.mk (show unfixedF order warm l = _ from if_neg h)
    by_cases h1 : order < 0
    · go_enter Try.func12, Try.ntmps12
      go_wp2
      go_ret2
      rw [HF.out]
      exact ⟨_, rfl, Kd.R_nil _ _ _ _ _, Below.refl _ _⟩
    by_cases h2 : 4 < order
    · go_enter Try.func12, Try.ntmps12
      go_wp2
      go_ret2
      rw [HF.out]
      exact ⟨_, rfl, Kd.R_nil _ _ _ _ _, Below.refl _ _⟩
    have h3 : ((warm.length : Int) != order) = true := by
      rw [bne_iff_ne]; omega
    go_enter Try.func12, Try.ntmps12
    go_wp2
    go_ret2
    rw [HF.out]
    exact ⟨_, rfl, Kd.R_nil _ _ _ _ _, Below.refl _ _⟩
/-- May coefficients be? -/
def mayF (coefs : List Int) (shift : Int) : Prop := 1 ≤ coefs.length ∧ coefs.length ≤ 32 ∧ 0 ≤ shift ∧ shift ≤ 31
instance (coefs : List Int) (shift : Int) : Decidable (mayF coefs shift) := by unfold mayF; infer_instance
theorem may_any (coefs : List Int) (shift : Int) (A : Option Addr) (c : Nat) (w : World) (hm : coefs.length ≤ 9223372036854775807) :
    Calls Try.prog 37 #[.slice A coefs.length c, .int .i64 shift] w fun e w' => e = .returned (.bool (decide (mayF coefs shift))) ∧ w = w' := by
  by_cases h1 : 1 ≤ coefs.length
  · by_cases h2 : coefs.length ≤ 32
    · by_cases h3 : 0 ≤ shift
      · by_cases h4 : shift ≤ 31
        all_goals
          have HF := Aside0.mk (show decide (mayF coefs shift) = decide (shift ≤ 31) by simp [mayF, h1, h2, h3])
          have b1 : decide (1 ≤ coefs.length) = true := decide_eq_true h1
          have b2 : decide (coefs.length ≤ 32) = true := decide_eq_true h2
          go_enter Try.func37, Try.ntmps37
          go_wp2
          go_ret
          refine ⟨?_, rfl⟩
          rw [HF.out]
          simp [h4]
      · have HF := Aside0.mk (show decide (mayF coefs shift) = false by simp [mayF, h3])
        have b1 : decide (1 ≤ coefs.length) = true := decide_eq_true h1
        have b2 : decide (coefs.length ≤ 32) = true := decide_eq_true h2
        have b3 : decide (0 ≤ shift) = false := decide_eq_false h3
        go_enter Try.func37, Try.ntmps37
        go_wp2
        go_ret
        exact ⟨by rw [HF.out]; rfl, rfl⟩
    · have HF := Aside0.mk (show decide (mayF coefs shift) = false by simp [mayF, h2])
      have b1 : decide (1 ≤ coefs.length) = true := decide_eq_true h1
      have b2 : decide (coefs.length ≤ 32) = false := decide_eq_false h2
      go_enter Try.func37, Try.ntmps37
      go_wp2
      go_ret
      exact ⟨by rw [HF.out]; rfl, rfl⟩
  · have HF := Aside0.mk (show decide (mayF coefs shift) = false by simp [mayF, h1])
    have b1 : decide (1 ≤ coefs.length) = false := decide_eq_false h1
    go_enter Try.func37, Try.ntmps37
    go_wp2
    go_ret
    exact ⟨by rw [HF.out]; rfl, rfl⟩
end Go.Proofs.Ytbbedocehejfgaa.Hand
