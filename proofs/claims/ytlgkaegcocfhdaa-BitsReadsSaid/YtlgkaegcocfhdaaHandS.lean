/- Contracts of layer 1, proved by hand: BitsReads. -/
import Derived.Test.YtlgkaegcocfhdaaHandR
namespace Go.Proofs.Ytlgkaegcocfhdaa.Hand
open Go.RowKit Go.Proofs.Ytlgkaegcocfhdaa.Q Go.Proofs.YtlgkaegcocfhdaaW.PrintWords Go.Proofs.YtlgkaegcocfhdaaW.PrintLast Go.Proofs.YtlgkaegcocfhdaaW.PrintMore
set_option linter.unusedVariables false
set_option linter.unusedSimpArgs false

set_option maxHeartbeats 32000000 in
set_option maxRecDepth 100000 in
theorem Reads_any (s : ByteArray) (hs : s.size ≤ 281474976710656) (A : Option Addr) (n c : Nat) (V : Nat → Deed) (w : World) (hA : Came w A n V) :
    Calls Try.prog 4 #[.string s, .slice A n c] w fun e w' => e = .returned (.bool true) ∧ Below w.heap.size w w' := by
  have hup := Try.underlying36
  have HA := Aside0.mk hA
  have HSZ := Aside0.mk hs
  clear hA hs
  go_enter Try.func4, Try.ntmps4
  go_wp2_with fail
  refine (Of_any s w).mono ?_
  rintro e w1 ⟨rfl, rfl⟩
  have HR1 := Aside0.mk ((of_at s w).below (below_alloc (Below.refl _ _) (.cells #[.string s, .int .i64 0] 40)))
  have HX1 : Aside0 (XAt ((w.alloc (.cells #[.int .i64 0, .string s] 70)).alloc (.cells #[.string s, .int .i64 0] 40)) (w.heap.size + 1) s 0) := ⟨by
    have := blk_new (w.alloc (.cells #[.int .i64 0, .string s] 70)) (.cells #[.string s, .int .i64 0] 40)
    have e1 : (w.alloc (.cells #[.int .i64 0, .string s] 70)).heap.size = w.heap.size + 1 := by simp
    rw [e1] at this
    exact this⟩
  have HB1 := Aside0.mk (((Below.refl w.heap.size w).alloc (Nat.le_refl _) (.cells #[.int .i64 0, .string s] 70)).alloc (by simp) (.cells #[.string s, .int .i64 0] 40))
  go_wp2
  generalize (w.alloc (.cells #[.int .i64 0, .string s] 70)).alloc (.cells #[.string s, .int .i64 0] 40) = w1 at HR1 HX1 HB1 ⊢
  obtain ⟨g, hg⟩ : ∃ g, w.heap.size = g := ⟨_, rfl⟩
  have HG := Aside0.mk hg
  have HG1 := Aside0.mk (show w.heap.size ≤ g by omega)
  have HG2 := Aside0.mk (show w.heap.size ≤ g + 1 by omega)
  rw [hg] at HR1 HX1 ⊢
  clear hg
  go_loopw [7] (fun iv wr => ∃ (d p : Nat), d ≤ n ∧ d ≤ 100 ∧ iv = .int .i64 d ∧ Aside0 (p ≤ 8 * s.size) ∧ Aside0 (RAt wr g s p) ∧ Aside0 (XAt wr (g + 1) s p) ∧ Aside0 (Below w.heap.size w wr)) (fun iv _ => 100 - (intOf iv).toNat)
  case atStart => exact ⟨0, 0, by omega, by omega, rfl, ⟨by omega⟩, HR1, HX1, HB1⟩
  case round =>
    clear HR1 HX1 HB1
    obtain ⟨d, p, hd, hd2, rfl, HP, HR, HX, HB⟩ := hrel
    by_cases hlt : d < n ∧ d < 100
    · obtain ⟨l1, l2⟩ := hlt
      have i1 : (d : Int) < (n : Int) := by omega
      have i2 : (d : Int) < 100 := by omega
      obtain ⟨hin, ad, rfl, k0, k1, k2, k3⟩ := HA.out d l1
      rw [Nat.add_zero] at k0
      rw [add_field _ _ 1 (by omega)] at k1
      have HK1 := Aside0.mk k1
      have k0 := pw_cell_below HB.out k0
      have k1 := pw_cell_below HB.out k1
      generalize V d = y at k0 k1 HK1
      clear hin k2 k3
      by_cases hk0 : y.k = 0
      · skip
        rw [hk0] at k0
        clear hk0
        obtain ⟨p2, hp2⟩ : ∃ p2, (getR s p y.w).2.2 = p2 := ⟨_, rfl⟩
        have HP2 : Aside0 (p2 ≤ 8 * s.size) := ⟨hp2 ▸ getR_at s p y.w HP.out⟩
        have HCT := Aside0.mk (Get_any s HSZ.out p HP.out y.w w.heap.size g HG1.out wr HR.out)
        rw [hp2] at HCT
        have HXT := Aside0.mk (fun W hx hb => XGet_any s HSZ.out p HP.out (g + 1) w W HG2.out hx hb y.w)
        rw [hp2] at HXT
        clear hp2
        generalize ((getR s p y.w).1 : Int) = x1 at HCT HXT
        generalize (getR s p y.w).2.1 = x2 at HCT HXT
        go_wp2_with fail
        refine HCT.out.mono ?_
        rintro e w4 ⟨rfl, hR, hT⟩
        have HR4 := Aside0.mk hR
        have HX4 := Aside0.mk (HX.out.turned HR.out hT)
        have HB4 := Aside0.mk (HB.out.trans hT.below)
        have k1' := pw_cell_below HB4.out HK1.out
        clear hR hT HR HX HB k0 k1 HCT
        go_wp2_with fail
        refine (HXT.out _ HX4.out HB4.out).mono ?_
        rintro e w5 ⟨rfl, hX, hB, hK⟩
        have HR5 := Aside0.mk (HR4.out.keep HX4.out hK)
        have HX5 := Aside0.mk hX
        have HB5 := Aside0.mk hB
        clear hX hB hK HR4 HX4 HB4 HXT
        clear k1'
        have HAT := Aside0.mk (quiet_at (fun W hW => At_any s p2 g W (show RAt W g s p2 by unfold RAt; rw [hW]; exact HR5.out)))
        have HLT := Aside0.mk (quiet_at (fun W hW => Left_any s HSZ.out p2 g HP2.out W (show RAt W g s p2 by unfold RAt; rw [hW]; exact HR5.out)))
        have HXL := Aside0.mk (quiet_at (fun W hW => XLeft_any s HSZ.out p2 (g + 1) HP2.out W (show XAt W (g + 1) s p2 by unfold XAt; rw [hW]; exact HX5.out)))
        have cx : w5.cell? ⟨g + 1, 1, none⟩ = some (.int .i64 p2) := blk_cell HX5.out 1
        go_wp2
        go_big_quiet ((first | (go_at_call 25; exact Calls.quiet_of (HAT.out _ rfl)) | (go_at_call 26; exact Calls.quiet_of (HLT.out _ rfl)) | (go_at_call 27; exact Calls.quiet_of (HXL.out _ rfl))))
        have HR6 : Aside0 (RAt (w5.drewN nq) g s p2) := ⟨HR5.out⟩
        have HX6 : Aside0 (XAt (w5.drewN nq) (g + 1) s p2) := ⟨HX5.out⟩
        have HB6 := Aside0.mk (pw_below_drewN HB5.out nq)
        clear HR5 HX5 HB5 HAT HLT HXL cx
        go_wp2
        go_roundw
        case rel => exact ⟨d + 1, p2, by omega, by omega, by go_num, HP2, HR6, HX6, HB6⟩
        case measure => simp [intOf]; omega
      · skip
        by_cases hk1 : y.k = 1
        · skip
          by_cases hw64 : y.w ≤ 64
          · skip
            rw [hk1] at k0
            clear hk0 hk1
            obtain ⟨p2, hp2⟩ : ∃ p2, (signedR s p y.w).2.2 = p2 := ⟨_, rfl⟩
            have HP2 : Aside0 (p2 ≤ 8 * s.size) := ⟨hp2 ▸ signedR_at s p y.w HP.out⟩
            have HCT := Aside0.mk (SignedR_any s HSZ.out p HP.out y.w w.heap.size g HG1.out wr HR.out)
            rw [hp2] at HCT
            have HXT := Aside0.mk (fun W hx hb => XSigned_any s HSZ.out p HP.out (g + 1) w W HG2.out hx hb y.w hw64)
            rw [hp2] at HXT
            clear hp2
            generalize (signedR s p y.w).1 = x1 at HCT HXT
            generalize (signedR s p y.w).2.1 = x2 at HCT HXT
            go_wp2_with fail
            refine HCT.out.mono ?_
            rintro e w4 ⟨rfl, hR, hT⟩
            have HR4 := Aside0.mk hR
            have HX4 := Aside0.mk (HX.out.turned HR.out hT)
            have HB4 := Aside0.mk (HB.out.trans hT.below)
            have k1' := pw_cell_below HB4.out HK1.out
            clear hR hT HR HX HB k0 k1 HCT
            go_wp2_with fail
            refine (HXT.out _ HX4.out HB4.out).mono ?_
            rintro e w5 ⟨rfl, hX, hB, hK⟩
            have HR5 := Aside0.mk (HR4.out.keep HX4.out hK)
            have HX5 := Aside0.mk hX
            have HB5 := Aside0.mk hB
            clear hX hB hK HR4 HX4 HB4 HXT
            clear k1'
            have HAT := Aside0.mk (quiet_at (fun W hW => At_any s p2 g W (show RAt W g s p2 by unfold RAt; rw [hW]; exact HR5.out)))
            have HLT := Aside0.mk (quiet_at (fun W hW => Left_any s HSZ.out p2 g HP2.out W (show RAt W g s p2 by unfold RAt; rw [hW]; exact HR5.out)))
            have HXL := Aside0.mk (quiet_at (fun W hW => XLeft_any s HSZ.out p2 (g + 1) HP2.out W (show XAt W (g + 1) s p2 by unfold XAt; rw [hW]; exact HX5.out)))
            have cx : w5.cell? ⟨g + 1, 1, none⟩ = some (.int .i64 p2) := blk_cell HX5.out 1
            go_wp2
            go_big_quiet ((first | (go_at_call 25; exact Calls.quiet_of (HAT.out _ rfl)) | (go_at_call 26; exact Calls.quiet_of (HLT.out _ rfl)) | (go_at_call 27; exact Calls.quiet_of (HXL.out _ rfl))))
            have HR6 : Aside0 (RAt (w5.drewN nq) g s p2) := ⟨HR5.out⟩
            have HX6 : Aside0 (XAt (w5.drewN nq) (g + 1) s p2) := ⟨HX5.out⟩
            have HB6 := Aside0.mk (pw_below_drewN HB5.out nq)
            clear HR5 HX5 HB5 HAT HLT HXL cx
            go_wp2
            go_roundw
            case rel => exact ⟨d + 1, p2, by omega, by omega, by go_num, HP2, HR6, HX6, HB6⟩
            case measure => simp [intOf]; omega
          · skip
            have hw64' : 64 < y.w := by omega
            rw [hk1] at k0
            clear hk0 hk1
            have he : signedR s p y.w = (0, 11, p) := by
              have hg : getR s p y.w = (0, 11, p) := if_pos (.inr (by omega))
              unfold signedR
              rw [if_neg (by omega), hg, if_neg (show ¬ ((11 : Int) = 0) by decide)]
            have HCT := Aside0.mk (SignedR_any s HSZ.out p HP.out y.w w.heap.size g HG1.out wr HR.out)
            rw [he] at HCT
            clear he
            obtain ⟨p2, rfl⟩ : ∃ p2, p2 = p := ⟨_, rfl⟩
            have HP2 := HP
            go_wp2_with fail
            refine HCT.out.mono ?_
            rintro e w4 ⟨rfl, hR, hT⟩
            have HR4 := Aside0.mk hR
            have HX4 := Aside0.mk (HX.out.turned HR.out hT)
            have HB4 := Aside0.mk (HB.out.trans hT.below)
            have k1' := pw_cell_below HB4.out HK1.out
            clear hR hT HR HX HB k0 k1 HCT
            have HR5 := HR4
            have HX5 := HX4
            have HB5 := HB4
            clear HR4 HX4 HB4
            obtain ⟨w5, rfl⟩ : ∃ w5, w5 = w4 := ⟨_, rfl⟩
            have HAT := Aside0.mk (quiet_at (fun W hW => At_any s p2 g W (show RAt W g s p2 by unfold RAt; rw [hW]; exact HR5.out)))
            have HLT := Aside0.mk (quiet_at (fun W hW => Left_any s HSZ.out p2 g HP2.out W (show RAt W g s p2 by unfold RAt; rw [hW]; exact HR5.out)))
            have HXL := Aside0.mk (quiet_at (fun W hW => XLeft_any s HSZ.out p2 (g + 1) HP2.out W (show XAt W (g + 1) s p2 by unfold XAt; rw [hW]; exact HX5.out)))
            have cx : w5.cell? ⟨g + 1, 1, none⟩ = some (.int .i64 p2) := blk_cell HX5.out 1
            go_wp2
            go_big_quiet ((first | (go_at_call 25; exact Calls.quiet_of (HAT.out _ rfl)) | (go_at_call 26; exact Calls.quiet_of (HLT.out _ rfl)) | (go_at_call 27; exact Calls.quiet_of (HXL.out _ rfl))))
            have HR6 : Aside0 (RAt (w5.drewN nq) g s p2) := ⟨HR5.out⟩
            have HX6 : Aside0 (XAt (w5.drewN nq) (g + 1) s p2) := ⟨HX5.out⟩
            have HB6 := Aside0.mk (pw_below_drewN HB5.out nq)
            clear HR5 HX5 HB5 HAT HLT HXL cx
            go_wp2
            go_roundw
            case rel => exact ⟨d + 1, p2, by omega, by omega, by go_num, HP2, HR6, HX6, HB6⟩
            case measure => simp [intOf]; omega
        · skip
          by_cases hk2 : y.k = 2
          · skip
            rw [hk2] at k0
            clear hk0 hk1 hk2
            obtain ⟨p2, hp2⟩ : ∃ p2, (unaryR s p).2.2 = p2 := ⟨_, rfl⟩
            have HP2 : Aside0 (p2 ≤ 8 * s.size) := ⟨hp2 ▸ unaryR_at s p HP.out⟩
            have HCT := Aside0.mk (UnaryR_any s HSZ.out p HP.out w.heap.size g HG1.out wr HR.out)
            rw [hp2] at HCT
            have HXT := Aside0.mk (fun W hx hb => XUnary_any s HSZ.out p HP.out (g + 1) w W HG2.out hx hb)
            rw [hp2] at HXT
            clear hp2
            generalize ((unaryR s p).1 : Int) = x1 at HCT HXT
            generalize (unaryR s p).2.1 = x2 at HCT HXT
            go_wp2_with fail
            refine HCT.out.mono ?_
            rintro e w4 ⟨rfl, hR, hT⟩
            have HR4 := Aside0.mk hR
            have HX4 := Aside0.mk (HX.out.turned HR.out hT)
            have HB4 := Aside0.mk (HB.out.trans hT.below)
            clear hR hT HR HX HB k0 k1 HCT
            go_wp2_with fail
            refine (HXT.out _ HX4.out HB4.out).mono ?_
            rintro e w5 ⟨rfl, hX, hB, hK⟩
            have HR5 := Aside0.mk (HR4.out.keep HX4.out hK)
            have HX5 := Aside0.mk hX
            have HB5 := Aside0.mk hB
            clear hX hB hK HR4 HX4 HB4 HXT
            have HAT := Aside0.mk (quiet_at (fun W hW => At_any s p2 g W (show RAt W g s p2 by unfold RAt; rw [hW]; exact HR5.out)))
            have HLT := Aside0.mk (quiet_at (fun W hW => Left_any s HSZ.out p2 g HP2.out W (show RAt W g s p2 by unfold RAt; rw [hW]; exact HR5.out)))
            have HXL := Aside0.mk (quiet_at (fun W hW => XLeft_any s HSZ.out p2 (g + 1) HP2.out W (show XAt W (g + 1) s p2 by unfold XAt; rw [hW]; exact HX5.out)))
            have cx : w5.cell? ⟨g + 1, 1, none⟩ = some (.int .i64 p2) := blk_cell HX5.out 1
            go_wp2
            go_big_quiet ((first | (go_at_call 25; exact Calls.quiet_of (HAT.out _ rfl)) | (go_at_call 26; exact Calls.quiet_of (HLT.out _ rfl)) | (go_at_call 27; exact Calls.quiet_of (HXL.out _ rfl))))
            have HR6 : Aside0 (RAt (w5.drewN nq) g s p2) := ⟨HR5.out⟩
            have HX6 : Aside0 (XAt (w5.drewN nq) (g + 1) s p2) := ⟨HX5.out⟩
            have HB6 := Aside0.mk (pw_below_drewN HB5.out nq)
            clear HR5 HX5 HB5 HAT HLT HXL cx
            go_wp2
            go_roundw
            case rel => exact ⟨d + 1, p2, by omega, by omega, by go_num, HP2, HR6, HX6, HB6⟩
            case measure => simp [intOf]; omega
          · skip
            by_cases hk3 : y.k = 3
            · skip
              rw [hk3] at k0
              clear hk0 hk1 hk2 hk3
              obtain ⟨p2, hp2⟩ : ∃ p2, (riceR s p y.w).2.2 = p2 := ⟨_, rfl⟩
              have HP2 : Aside0 (p2 ≤ 8 * s.size) := ⟨hp2 ▸ riceR_at s p y.w HP.out⟩
              have HCT := Aside0.mk (RiceR_any s HSZ.out p HP.out y.w w.heap.size g HG1.out wr HR.out)
              rw [hp2] at HCT
              have HXT := Aside0.mk (fun W hx hb => XRice_any s HSZ.out p HP.out (g + 1) w W HG2.out hx hb y.w)
              rw [hp2] at HXT
              clear hp2
              generalize (riceR s p y.w).1 = x1 at HCT HXT
              generalize (riceR s p y.w).2.1 = x2 at HCT HXT
              go_wp2_with fail
              refine HCT.out.mono ?_
              rintro e w4 ⟨rfl, hR, hT⟩
              have HR4 := Aside0.mk hR
              have HX4 := Aside0.mk (HX.out.turned HR.out hT)
              have HB4 := Aside0.mk (HB.out.trans hT.below)
              have k1' := pw_cell_below HB4.out HK1.out
              clear hR hT HR HX HB k0 k1 HCT
              go_wp2_with fail
              refine (HXT.out _ HX4.out HB4.out).mono ?_
              rintro e w5 ⟨rfl, hX, hB, hK⟩
              have HR5 := Aside0.mk (HR4.out.keep HX4.out hK)
              have HX5 := Aside0.mk hX
              have HB5 := Aside0.mk hB
              clear hX hB hK HR4 HX4 HB4 HXT
              clear k1'
              have HAT := Aside0.mk (quiet_at (fun W hW => At_any s p2 g W (show RAt W g s p2 by unfold RAt; rw [hW]; exact HR5.out)))
              have HLT := Aside0.mk (quiet_at (fun W hW => Left_any s HSZ.out p2 g HP2.out W (show RAt W g s p2 by unfold RAt; rw [hW]; exact HR5.out)))
              have HXL := Aside0.mk (quiet_at (fun W hW => XLeft_any s HSZ.out p2 (g + 1) HP2.out W (show XAt W (g + 1) s p2 by unfold XAt; rw [hW]; exact HX5.out)))
              have cx : w5.cell? ⟨g + 1, 1, none⟩ = some (.int .i64 p2) := blk_cell HX5.out 1
              go_wp2
              go_big_quiet ((first | (go_at_call 25; exact Calls.quiet_of (HAT.out _ rfl)) | (go_at_call 26; exact Calls.quiet_of (HLT.out _ rfl)) | (go_at_call 27; exact Calls.quiet_of (HXL.out _ rfl))))
              have HR6 : Aside0 (RAt (w5.drewN nq) g s p2) := ⟨HR5.out⟩
              have HX6 : Aside0 (XAt (w5.drewN nq) (g + 1) s p2) := ⟨HX5.out⟩
              have HB6 := Aside0.mk (pw_below_drewN HB5.out nq)
              clear HR5 HX5 HB5 HAT HLT HXL cx
              go_wp2
              go_roundw
              case rel => exact ⟨d + 1, p2, by omega, by omega, by go_num, HP2, HR6, HX6, HB6⟩
              case measure => simp [intOf]; omega
            · skip
              have b0 : (y.k == 0) = false := by simpa using hk0
              have b1 : (y.k == 1) = false := by simpa using hk1
              have b2 : (y.k == 2) = false := by simpa using hk2
              have b3 : (y.k == 3) = false := by simpa using hk3
              clear hk0 hk1 hk2 hk3
              obtain ⟨p2, hp2⟩ : ∃ p2, (alignR s p).2 = p2 := ⟨_, rfl⟩
              have HP2 : Aside0 (p2 ≤ 8 * s.size) := ⟨hp2 ▸ alignR_at s p HP.out⟩
              have HCT := Aside0.mk (AlignR_any s HSZ.out p HP.out w.heap.size g HG1.out wr HR.out)
              rw [hp2] at HCT
              have HXT := Aside0.mk (fun W hx hb => XAlign_any s HSZ.out p HP.out (g + 1) w W HG2.out hx hb)
              rw [hp2] at HXT
              clear hp2
              generalize (alignR s p).1 = x1 at HCT HXT
              go_wp2_with fail
              refine HCT.out.mono ?_
              rintro e w4 ⟨rfl, hR, hT⟩
              have HR4 := Aside0.mk hR
              have HX4 := Aside0.mk (HX.out.turned HR.out hT)
              have HB4 := Aside0.mk (HB.out.trans hT.below)
              clear hR hT HR HX HB k0 k1 HCT
              go_wp2_with fail
              refine (HXT.out _ HX4.out HB4.out).mono ?_
              rintro e w5 ⟨rfl, hX, hB, hK⟩
              have HR5 := Aside0.mk (HR4.out.keep HX4.out hK)
              have HX5 := Aside0.mk hX
              have HB5 := Aside0.mk hB
              clear hX hB hK HR4 HX4 HB4 HXT
              have HAT := Aside0.mk (quiet_at (fun W hW => At_any s p2 g W (show RAt W g s p2 by unfold RAt; rw [hW]; exact HR5.out)))
              have HLT := Aside0.mk (quiet_at (fun W hW => Left_any s HSZ.out p2 g HP2.out W (show RAt W g s p2 by unfold RAt; rw [hW]; exact HR5.out)))
              have HXL := Aside0.mk (quiet_at (fun W hW => XLeft_any s HSZ.out p2 (g + 1) HP2.out W (show XAt W (g + 1) s p2 by unfold XAt; rw [hW]; exact HX5.out)))
              have cx : w5.cell? ⟨g + 1, 1, none⟩ = some (.int .i64 p2) := blk_cell HX5.out 1
              go_wp2
              go_big_quiet ((first | (go_at_call 25; exact Calls.quiet_of (HAT.out _ rfl)) | (go_at_call 26; exact Calls.quiet_of (HLT.out _ rfl)) | (go_at_call 27; exact Calls.quiet_of (HXL.out _ rfl))))
              have HR6 : Aside0 (RAt (w5.drewN nq) g s p2) := ⟨HR5.out⟩
              have HX6 : Aside0 (XAt (w5.drewN nq) (g + 1) s p2) := ⟨HX5.out⟩
              have HB6 := Aside0.mk (pw_below_drewN HB5.out nq)
              clear HR5 HX5 HB5 HAT HLT HXL cx
              go_wp2
              go_roundw
              case rel => exact ⟨d + 1, p2, by omega, by omega, by go_num, HP2, HR6, HX6, HB6⟩
              case measure => simp [intOf]; omega
    · have hst : ¬ (d : Int) < (n : Int) ∨ ((d : Int) < (n : Int) ∧ ¬ (d : Int) < 100) := by omega
      clear hlt
      rcases hst with hst | ⟨hst, hst2⟩
      all_goals
        go_wp2_with fail
        refine (awake_any _).mono ?_
        rintro e w2 ⟨rfl, hB2⟩
        have HB2 := Aside0.mk (HB.out.trans (hB2.mono HB.out.size))
        clear hB2
        go_wp2
        go_ret
        exact ⟨rfl, HB2.out⟩
end Go.Proofs.Ytlgkaegcocfhdaa.Hand
