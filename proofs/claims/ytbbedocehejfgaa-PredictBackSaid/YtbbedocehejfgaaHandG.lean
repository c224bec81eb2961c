/- Contracts of layer 9, proved by hand, the seventh part: the reference's foretold and whole. -/
import Derived.Test.YtbbedocehejfgaaHandF
namespace Go.Proofs.Ytbbedocehejfgaa.Hand
open Go.RowKit Go.Proofs.YtbbedocehejfgaaW.PrintWords Go.Proofs.YtbbedocehejfgaaW.PrintLast Go.Proofs.YtbbedocehejfgaaW.PrintMore
set_option linter.unusedVariables false
set_option linter.unusedSimpArgs false

set_option maxHeartbeats 1000000 in
set_option maxRecDepth 100000 in
theorem rfore_any (coefs l : List Int) (shift : Int) (A A2 : Option Addr) (c c2 : Nat) (w : World)
    (hc : ReadsInt w .i64 A coefs.length coefs)
    (hl : ReadsInt w .i64 A2 l.length l) (hn : coefs.length ≤ l.length) (hs : 0 ≤ shift) (hs2 : shift ≤ 31) :
    Calls Try.prog 45 #[.slice A coefs.length c, .int .i64 shift, .slice A2 l.length c2, .int .i64 l.length] w fun e w' => e = .returned (.int .i64 (foretell coefs shift l)) ∧ Drawn0 w w' := by
  have HC := Aside0.mk hc
  have HL := Aside0.mk hl
  have hmax := hl.2.1
  clear hc hl
  go_enter Try.func45, Try.ntmps45
  go_wp2
  go_loopw [9, 10] (fun s i wr => ∃ k : Nat, k ≤ coefs.length ∧ i = .int .i64 k ∧ s = .int .i64 (foreSum coefs l k) ∧ Drawn0 w wr) (fun _ i _ => coefs.length - (intOf i).toNat)
  case atStart => exact ⟨0, Nat.zero_le _, rfl, rfl, Drawn0.refl _⟩
  case round =>
    obtain ⟨k, hk, rfl, rfl, ⟨mq, rfl⟩⟩ := hrel
    by_cases hlt : k < coefs.length
    · have i1 : (k : Int) < (coefs.length : Int) := by omega
      obtain ⟨ad, rfl, hx⟩ := HC.out.at_ (k : Int) (by omega) i1
      obtain ⟨m, hm⟩ : ∃ m, l.length = k + 1 + m := ⟨l.length - 1 - k, by omega⟩
      have i3 : (m : Int) < (l.length : Int) := by omega
      obtain ⟨ad2, rfl, hx2⟩ := HL.out.at_ (m : Int) (by omega) i3
      rw [Int.toNat_natCast] at hx hx2
      have e1 : (l.length : Int) - 1 - (k : Int) = (m : Int) := by omega
      have HS : Aside0 (foreSum coefs l (k + 1) = wrap64 (foreSum coefs l k + wrap64 (rd coefs (k : Nat) * rd l (m : Int)))) := ⟨by
        simp only [foreSum]
        rw [show l.length - 1 - k = m by omega]⟩
      generalize rd coefs (k : Int) = x1 at hx HS
      generalize rd l (m : Int) = x2 at hx2 HS
      have HM := Aside0.mk hm
      clear hm
      go_wp2
      go_quiet (fail)
      go_wp2
      refine ⟨⟨k + 1, by omega, by go_num, by rw [HS.out], by repeat (first | exact Drawn0.refl _ | apply Drawn0.step)⟩, by simp [intOf]; omega⟩
    · obtain rfl : k = coefs.length := by omega
      go_wp2
      go_ret
      exact ⟨by unfold foretell shr; rw [Nat.min_eq_left (by simp [IntKind.bits]; omega)]; rfl, by repeat (first | exact Drawn0.refl _ | apply Drawn0.step)⟩

set_option maxHeartbeats 2000000 in
set_option maxRecDepth 100000 in
theorem rwhole_any (coefs warm l : List Int) (shift : Int) (A0 A1 A2 : Option Addr) (c0 c1 c2 : Nat) (w : World) (hv : ReadsInt w .i64 A0 coefs.length coefs)
    (hw : ReadsInt w .i64 A1 warm.length warm) (hl : ReadsInt w .i64 A2 l.length l) (hn : coefs.length ≤ warm.length) (hs : 0 ≤ shift) (hs2 : shift ≤ 31) (hb : (warm.length + l.length) * 8 ≤ 140737488355328) :
    Calls Try.prog 35 #[.slice A0 coefs.length c0, .int .i64 shift, .slice A1 warm.length c1, .slice A2 l.length c2] w fun e w' => ∃ v0, e = .returned v0 ∧
      Kd.R (Kd.int .i64) 3 w' w.heap.size (fun _ => True) v0 (wholeTo coefs shift warm l l.length) ∧ Below w.heap.size w w' := by
  have HV := Aside0.mk hv
  have HL := Aside0.mk hl
  have hmax := hl.2.1
  have HC := Aside0.mk (Kd.C_of_reads hw : (Kd.int .i64).C w A1 warm.length warm)
  clear hl hw hv
  go_enter Try.func35, Try.ntmps35
  go_wp2_with (at_builtin; (with_reducible refine app_row (w0 := w) (v := .slice none 0 0) (xs := []) (ys := warm) (A := A1) (m := warm.length) (c := c1) (.const (.slice none 0 0)) (.tmp 11) ?_ ?_ ?_ ?_ ?_ ?_ ?_ ?_ ?_); rfl; rfl; rfl; rfl; exact Kd.R_nil _ _ _ _ _; exact HC.out; exact Below.refl _ _; (simp; omega); intro v1 w1 HR HB0)
  go_loopw [9, 10] (fun o i wr => ∃ d : Nat, d ≤ l.length ∧ i = .int .i64 d ∧ Aside0 (Kd.R (Kd.int .i64) 3 wr w.heap.size (fun _ => True) o (wholeTo coefs shift warm l d)) ∧ Aside0 (Below w.heap.size w wr)) (fun _ i _ => l.length - (intOf i).toNat)
  case atStart => exact ⟨0, by omega, rfl, HR, HB0⟩
  case round =>
    clear HR HB0
    obtain ⟨d, hd, rfl, HO, HB⟩ := hrel
    by_cases hlt : d < l.length
    · have i1 : (d : Int) < (l.length : Int) := by omega
      obtain ⟨ad, rfl, hx⟩ := HL.out.at_ (d : Int) (by omega) i1
      rw [Int.toNat_natCast] at hx
      replace hx := (HB.out.cell (World.block_lt_of_cell? w _ hx)).trans hx
      generalize hx1 : rd l (d : Int) = x1 at hx
      have HX := Aside0.mk hx1
      clear hx1
      obtain ⟨A3, c3, rfl, hc3, hC3⟩ := Kd.R_reads HO.out
      have HC3 := Aside0.mk (Kd.reads_of_C (d := (0 : Int)) (enc := Value.int .i64) hC3)
      clear hC3 hc3
      have hll := wholeTo_length coefs shift warm l d
      obtain ⟨n, hnn⟩ : ∃ n, (wholeTo coefs shift warm l d).length = n := ⟨_, rfl⟩
      have HLL := Aside0.mk hll
      have hcall : ∀ W : World, Below wr.heap.size wr W → Calls Try.prog 45 #[.slice A0 coefs.length c0, .int .i64 shift, .slice A3 n c3, .int .i64 n] W fun e w' => e = .returned (.int .i64 (foretell coefs shift (wholeTo coefs shift warm l d))) ∧ Drawn0 W w' := by
        intro W hW
        rw [← hnn]
        exact rfore_any coefs (wholeTo coefs shift warm l d) shift A0 A3 c0 c3 W ((HV.out.below HB.out).below hW) (HC3.out.below hW) (by rw [hll]; omega) hs hs2
      have HC := Aside0.mk hcall
      have hlen : (wholeTo coefs shift warm l d).length < 17592186044416 := by rw [hll]; omega
      have HLEN := Aside0.mk hlen
      clear hcall hll hlen
      rw [hnn] at HO ⊢
      clear hnn
      go_wp2
      go_region_law (first | ((with_reducible refine app_step (w0 := w) (v := .slice A3 n c3) (xs := wholeTo coefs shift warm l d) (.tmp 19) (.tmp 31) _ ?_ ?_ ?_ ?_ ?_ ?_ ?_ ?_); rfl; rfl; rfl; rfl; exact Kd.R_drewN HO.out _; exact pw_below_drewN HB.out _; exact HLEN.out; intro v1 w1 HO1 HB1) | (go_simp; go_at_call 45; refine (HC.out _ (by first | exact below_drew (Below.refl _ _) | exact Below.refl _ _)).mono ?_; rintro e w' ⟨rfl, ⟨mq, rfl⟩⟩))
      all_goals
        go_wp2
        refine ⟨⟨d + 1, by omega, by go_num, ⟨?_⟩, HB1⟩, by simp [intOf]; omega⟩
        simp only [wholeTo]
        rw [HX.out, ← i64_w]
        exact HO1.out
    · obtain rfl : d = l.length := by omega
      go_wp2
      go_ret
      exact ⟨_, rfl, HO.out, HB.out⟩
end Go.Proofs.Ytbbedocehejfgaa.Hand
