/- Contracts of layer 9, proved by hand, the fourth part: Lpc, Unlpc. -/
import Derived.Test.YtbbedocehejfgaaHandC
namespace Go.Proofs.Ytbbedocehejfgaa.Hand
open Go.RowKit Go.Proofs.YtbbedocehejfgaaW.PrintWords Go.Proofs.YtbbedocehejfgaaW.PrintLast Go.Proofs.YtbbedocehejfgaaW.PrintMore
set_option linter.unusedVariables false
set_option linter.unusedSimpArgs false

/-- What Lpc gives. -/
def lpcF (coefs : List Int) (shift : Int) (l : List Int) : List Int × Int :=
  if mayF coefs shift ∧ coefs.length ≤ l.length then (leftTo coefs shift l coefs.length (l.length - coefs.length), 0) else ([], 1)
set_option maxHeartbeats 2000000 in
set_option maxRecDepth 100000 in
theorem Lpc_any (coefs : List Int) (shift : Int) (l : List Int) (A0 A : Option Addr) (c0 c : Nat) (w : World) (hc0 : ReadsInt w .i64 A0 coefs.length coefs) (hl : ReadsInt w .i64 A l.length l) (hc : l.length ≤ c) (hb : l.length * 8 ≤ 140737488355328) :
    Calls Try.prog 16 #[.slice A0 coefs.length c0, .int .i64 shift, .slice A l.length c] w fun e w' => ∃ v0 : Value, e = .returned (.tuple #[v0, .int .i64 (lpcF coefs shift l).2]) ∧
      Kd.R (Kd.int .i64) 3 w' w.heap.size (fun _ => True) v0 (lpcF coefs shift l).1 ∧ Below w.heap.size w w' := by
  have HL := Aside0.mk hl
  have HC0 := Aside0.mk hc0
  have hmax := hl.2.1
  have hmax2 := hc0.2.1
  clear hl hc0
  by_cases h : mayF coefs shift
  · by_cases h2 : coefs.length ≤ l.length
    · have HF := Aside0.mk (show lpcF coefs shift l = _ from if_pos ⟨h, h2⟩)
      have hd : decide (mayF coefs shift) = true := decide_eq_true h
      have hn := h
      unfold mayF at hn
      obtain ⟨n1, n2, n3, n4⟩ := hn
      have HM := Aside0.mk h
      clear h
      have b1 : decide (l.length < coefs.length) = false := decide_eq_false (by omega)
      go_enter Try.func16, Try.ntmps16
      go_wp2_with fail
      refine (may_any coefs shift A0 c0 _ hmax2).mono ?_
      rintro e w1 ⟨rfl, rfl⟩
      go_wp2_with fail
      refine (of_any coefs shift A0 c0 _ HC0.out (by omega)).mono ?_
      rintro e w1 ⟨v, rfl, hv, hB⟩
      have HV := Aside0.mk hv
      have HB := Aside0.mk hB
      clear hv hB
      go_wp2_with fail
      refine (left_any coefs l shift v A c _ HV.out (HL.out.below HB.out) hc (by omega) n3 n4 hb).mono ?_
      rintro e w2 ⟨v0, rfl, hR, hB⟩
      have HR := Aside0.mk hR
      have HB1 := Aside0.mk hB
      clear hR hB
      go_wp2
      go_ret2
      rw [HF.out]
      exact ⟨_, rfl, Kd.R_lower HR.out HB.out.size, HB.out.trans (HB1.out.mono HB.out.size)⟩
    · have HF := Aside0.mk (show lpcF coefs shift l = _ from if_neg (fun h => h2 h.2))
      have hd : decide (mayF coefs shift) = true := decide_eq_true h
      have b1 : decide (l.length < coefs.length) = true := decide_eq_true (by omega)
      have HM := Aside0.mk h
      clear h
      go_enter Try.func16, Try.ntmps16
      go_wp2_with fail
      refine (may_any coefs shift A0 c0 _ hmax2).mono ?_
      rintro e w1 ⟨rfl, rfl⟩
      go_wp2
      go_ret2
      rw [HF.out]
      exact ⟨_, rfl, Kd.R_nil _ _ _ _ _, Below.refl _ _⟩
  · have HF := Aside0.mk (show lpcF coefs shift l = _ from if_neg (fun h2 => h h2.1))
    have hd : decide (mayF coefs shift) = false := decide_eq_false h
    have HM := Aside0.mk h
    clear h
    go_enter Try.func16, Try.ntmps16
    go_wp2_with fail
    refine (may_any coefs shift A0 c0 _ hmax2).mono ?_
    rintro e w1 ⟨rfl, rfl⟩
    go_wp2
    go_ret2
    rw [HF.out]
    exact ⟨_, rfl, Kd.R_nil _ _ _ _ _, Below.refl _ _⟩
/-- What Unlpc gives. -/
def unlpcF (coefs : List Int) (shift : Int) (warm l : List Int) : List Int × Int :=
  if mayF coefs shift ∧ warm.length = coefs.length then (wholeTo coefs shift warm l l.length, 0) else ([], 1)
set_option maxHeartbeats 2000000 in
set_option maxRecDepth 100000 in
theorem Unlpc_any (coefs : List Int) (shift : Int) (warm l : List Int) (A0 A1 A2 : Option Addr) (c0 c1 c2 : Nat) (w : World) (hc0 : ReadsInt w .i64 A0 coefs.length coefs) (hw : ReadsInt w .i64 A1 warm.length warm) (hl : ReadsInt w .i64 A2 l.length l) (hb : l.length * 8 ≤ 140737488351232) :
    Calls Try.prog 18 #[.slice A0 coefs.length c0, .int .i64 shift, .slice A1 warm.length c1, .slice A2 l.length c2] w fun e w' => ∃ v0 : Value, e = .returned (.tuple #[v0, .int .i64 (unlpcF coefs shift warm l).2]) ∧
      Kd.R (Kd.int .i64) 3 w' w.heap.size (fun _ => True) v0 (unlpcF coefs shift warm l).1 ∧ Below w.heap.size w w' := by
  have HL := Aside0.mk hl
  have HC0 := Aside0.mk hc0
  have HW := Aside0.mk hw
  have hmax := hl.2.1
  have hmax2 := hc0.2.1
  have hmax3 := hw.2.1
  clear hl hc0 hw
  by_cases h : mayF coefs shift
  · by_cases h2 : warm.length = coefs.length
    · have HF := Aside0.mk (show unlpcF coefs shift warm l = _ from if_pos ⟨h, h2⟩)
      have hd : decide (mayF coefs shift) = true := decide_eq_true h
      have hn := h
      unfold mayF at hn
      obtain ⟨n1, n2, n3, n4⟩ := hn
      have HM := Aside0.mk h
      have H2 := Aside0.mk h2
      have b1 : ((warm.length : Int) != (coefs.length : Int)) = false := by simp [h2]
      have b2 : (warm.length != coefs.length) = false := by simp [h2]
      clear h h2
      go_enter Try.func18, Try.ntmps18
      go_wp2_with fail
      refine (may_any coefs shift A0 c0 _ hmax2).mono ?_
      rintro e w1 ⟨rfl, rfl⟩
      go_wp2_with fail
      refine (of_any coefs shift A0 c0 _ HC0.out (by omega)).mono ?_
      rintro e w1 ⟨v, rfl, hv, hB⟩
      have HV := Aside0.mk hv
      have HB := Aside0.mk hB
      clear hv hB
      go_wp2_with fail
      refine (whole_any coefs warm l shift v A1 A2 c1 c2 _ HV.out (HW.out.below HB.out) (HL.out.below HB.out) (by have := H2.out; omega) n3 n4 (by have := H2.out; omega)).mono ?_
      rintro e w2 ⟨v0, rfl, hR, hB⟩
      have HR := Aside0.mk hR
      have HB1 := Aside0.mk hB
      clear hR hB
      go_wp2
      go_ret2
      rw [HF.out]
      exact ⟨_, rfl, Kd.R_lower HR.out HB.out.size, HB.out.trans (HB1.out.mono HB.out.size)⟩
    · have HF := Aside0.mk (show unlpcF coefs shift warm l = _ from if_neg (fun h => h2 h.2))
      have hd : decide (mayF coefs shift) = true := decide_eq_true h
      have b1 : ((warm.length : Int) != (coefs.length : Int)) = true := by rw [bne_iff_ne]; omega
      have b2 : (warm.length != coefs.length) = true := by rw [bne_iff_ne]; exact h2
      have HM := Aside0.mk h
      clear h h2
      go_enter Try.func18, Try.ntmps18
      go_wp2_with fail
      refine (may_any coefs shift A0 c0 _ hmax2).mono ?_
      rintro e w1 ⟨rfl, rfl⟩
      go_wp2
      go_ret2
      rw [HF.out]
      exact ⟨_, rfl, Kd.R_nil _ _ _ _ _, Below.refl _ _⟩
  · have HF := Aside0.mk (show unlpcF coefs shift warm l = _ from if_neg (fun h2 => h h2.1))
    have hd : decide (mayF coefs shift) = false := decide_eq_false h
    have HM := Aside0.mk h
    clear h
    go_enter Try.func18, Try.ntmps18
    go_wp2_with fail
    refine (may_any coefs shift A0 c0 _ hmax2).mono ?_
    rintro e w1 ⟨rfl, rfl⟩
    go_wp2
    go_ret2
    rw [HF.out]
    exact ⟨_, rfl, Kd.R_nil _ _ _ _ _, Below.refl _ _⟩
end Go.Proofs.Ytbbedocehejfgaa.Hand
