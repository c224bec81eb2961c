/- Contracts of layer 1, proved by hand: a reader's Unary. -/
import Derived.Test.YtlgkaegcocfhdaaHandH
namespace Go.Proofs.Ytlgkaegcocfhdaa.Hand
open Go.RowKit Go.Proofs.YtlgkaegcocfhdaaW.PrintWords Go.Proofs.YtlgkaegcocfhdaaW.PrintLast Go.Proofs.YtlgkaegcocfhdaaW.PrintMore
set_option linter.unusedVariables false
set_option linter.unusedSimpArgs false

set_option maxHeartbeats 1000000 in
theorem UnaryR_nil (w : World) : Calls Try.prog 19 #[.pointer none] w fun e w' => e = .returned (.tuple #[.int .i64 0, .int .i64 1]) ∧ Drawn0 w w' := by
  have hup := Try.underlying36
  go_enter Try.func19, Try.ntmps19
  go_wp2
  go_ret2
  exact ⟨rfl, Drawn0.refl _⟩
set_option maxHeartbeats 2000000 in
set_option maxRecDepth 100000 in
theorem UnaryR_any (s : ByteArray) (hs : s.size ≤ 281474976710656) (p : Nat) (hp : p ≤ 8 * s.size) (B g : Nat) (hB : B ≤ g) (w : World) (h : RAt w g s p) :
    Calls Try.prog 19 #[.pointer (some ⟨g, 0, none⟩)] w fun e w' => e = .returned (.tuple #[.int .i64 (unaryR s p).1, .int .i64 (unaryR s p).2.1]) ∧ RAt w' g s (unaryR s p).2.2 ∧ Turned B g w w' := by
  have hup := Try.underlying36
  have HR := Aside0.mk h
  clear h
  have HL := Aside0.mk (Left_any s hs p g hp w HR.out)
  obtain ⟨m, hm⟩ : ∃ m : Nat, 8 * s.size - p = m := ⟨_, rfl⟩
  obtain ⟨Z, hZ⟩ : ∃ Z : Nat, zeros s p m = Z := ⟨_, rfl⟩
  have HU := Aside0.mk (show unaryR s p = if 16777216 < Z then (0, 11, p) else if Z = m then (0, 10, p) else (Z, 0, p + Z + 1) by unfold unaryR; rw [hm, hZ])
  have hZm : Z ≤ m := by rw [← hZ]; exact zeros_le s m p
  have HZ0 := Aside0.mk (fun i (h : i < Z) => zeros_bit s m p i (by rw [hZ]; exact h))
  have HZ1 := Aside0.mk (fun (h : Z < m) => by have := zeros_end s m p (by rw [hZ]; exact h); rw [hZ] at this; exact this)
  rw [hm] at HL
  have HPM := Aside0.mk (show p + m = 8 * s.size by omega)
  have hp1 : p ≤ 2251799813685248 := by omega
  have hm1 : m ≤ 2251799813685248 := by omega
  clear hm hZ
  go_enter Try.func19, Try.ntmps19
  go_wp2_with fail
  refine HL.out.mono ?_
  rintro e w1 ⟨rfl, hd⟩
  have HR1 := Aside0.mk (HR.out.drawn hd)
  have HT1 := Aside0.mk ((Turned.refl B g w).drawn hd)
  clear hd HL
  go_wp2
  go_loopg [4] m (fun k i wr => ∃ d : Nat, d + k = m ∧ d ≤ Z ∧ Aside0 (d ≤ 16777216) ∧ i = .int .i64 d ∧ Aside0 (RAt wr g s p) ∧ Aside0 (Turned B g w wr))
  case atStart => exact ⟨0, by omega, by omega, ⟨by omega⟩, rfl, HR1, HT1⟩
  case round =>
    obtain ⟨d, hdk, hdZ, HDL, rfl, HR2, HT2⟩ := hrel
    have hdl := HDL.out
    have c0 := HR2.out.place
    by_cases hlt : d < m
    · have i1 : (d : Int) < (m : Int) := by omega
      have HPK := Aside0.mk (fun W hW => peek_any s p (p + d) g (by have := HPM.out; omega) hs W hW)
      by_cases hz : d < Z
      · rw [HZ0.out d hz] at HPK
        obtain ⟨q, hq⟩ : ∃ q, p + d = q := ⟨_, rfl⟩
        rw [hq] at HPK
        have eq1 : (p : Int) + (d : Int) = (q : Int) := by omega
        have hq2 : q ≤ 4503599627370496 := by omega
        clear hq
        go_wp2_with fail
        refine (at_any g _ _ c0).mono ?_
        rintro e w2 ⟨rfl, rfl⟩
        go_wp2_with fail
        refine (HPK.out _ HR2.out).mono ?_
        rintro e w3 ⟨rfl, hd⟩
        have HR3 := Aside0.mk (HR2.out.drawn hd)
        have HT3 := Aside0.mk (HT2.out.drawn hd)
        clear hd
        by_cases h16 : d = 16777216
        · have HU1 := Aside0.mk (HU.out.trans (if_pos (by omega)))
          have i3 : (16777216 : Int) < (d : Int) + 1 := by omega
          clear h16
          go_wp2
          go_ret2
          rw [HU1.out]
          exact ⟨rfl, HR3.out, HT3.out⟩
        · have b3 : decide ((16777216 : Int) < (d : Int) + 1) = false := decide_eq_false (by omega)
          have H17 := Aside0.mk (show d < 16777216 by omega)
          clear h16 hdl
          go_wp2
          have h17 := H17.out
          go_roundg (gk - 1)
          case measure => omega
          case rel => exact ⟨d + 1, by omega, by omega, ⟨by omega⟩, by go_num, HR3, HT3⟩
      · obtain rfl : d = Z := by omega
        rw [HZ1.out hlt] at HPK
        have HU1 := Aside0.mk (HU.out.trans ((if_neg (by omega)).trans (if_neg (by omega))))
        have hne : ((d : Int) == (m : Int)) = false := by simp; omega
        have hne2 : ¬ (d : Int) = (m : Int) := by omega
        obtain ⟨q, hq⟩ : ∃ q, p + d = q := ⟨_, rfl⟩
        rw [hq] at HPK HU1
        have eq1 : (p : Int) + (d : Int) = (q : Int) := by omega
        have hq2 : q ≤ 4503599627370496 := by omega
        have HQ := Aside0.mk hq
        clear hq HU
        go_wp2_with fail
        refine (at_any g _ _ c0).mono ?_
        rintro e w2 ⟨rfl, rfl⟩
        go_wp2_with fail
        refine (HPK.out _ HR2.out).mono ?_
        rintro e w3 ⟨rfl, hd⟩
        have HR3 := Aside0.mk (HR2.out.drawn hd)
        have HT3 := Aside0.mk (HT2.out.drawn hd)
        clear hd c0
        have c0 := HR3.out.place
        have f0 := blk_frozen HR3.out 0
        go_wp2_with fail
        refine (on_any g p ((d : Int) + 1) _ c0 f0 (by omega) (by omega) (by omega) (by omega)).mono ?_
        rintro e w2 ⟨rfl, rfl⟩
        go_wp2
        go_ret2
        rw [HU1.out]
        refine ⟨rfl, ?_, HT3.out.set hB 0 _⟩
        have := HR3.out.to (q := q + 1)
        rw [show ((q + 1 : Nat) : Int) = (p : Int) + ((d : Int) + 1) by have := HQ.out; omega] at this
        exact this
    · obtain rfl : d = m := by omega
      have hzm : Z = d := by omega
      have HU1 := Aside0.mk (HU.out.trans ((if_neg (by omega)).trans (if_pos hzm)))
      clear hzm HU
      go_wp2
      go_ret2
      rw [HU1.out]
      exact ⟨rfl, HR2.out, HT2.out⟩
end Go.Proofs.Ytlgkaegcocfhdaa.Hand
