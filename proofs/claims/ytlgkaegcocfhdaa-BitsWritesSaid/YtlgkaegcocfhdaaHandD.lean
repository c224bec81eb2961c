/- Contracts of layer 1, proved by hand: a writer's unary. -/
import Derived.Test.YtlgkaegcocfhdaaHandC
namespace Go.Proofs.Ytlgkaegcocfhdaa.Hand
open Go.RowKit Go.Proofs.YtlgkaegcocfhdaaW.PrintWords Go.Proofs.YtlgkaegcocfhdaaW.PrintLast Go.Proofs.YtlgkaegcocfhdaaW.PrintMore
set_option linter.unusedVariables false
set_option linter.unusedSimpArgs false

/-- Bits, and so many noughts. -/
def noughts (bs : List Bool) (j : Nat) : List Bool := bs ++ List.replicate j false
theorem noughts_length (bs : List Bool) (j : Nat) : (noughts bs j).length = bs.length + j := by simp [noughts]
theorem noughts_one (bs : List Bool) (j : Nat) : noughts bs j ++ [false] = noughts bs (j + 1) := by
  unfold noughts
  rw [List.append_assoc, ← List.replicate_succ']
theorem noughts_eight (bs : List Bool) (j : Nat) : noughts bs j ++ List.replicate 8 false = noughts bs (j + 8) := by
  unfold noughts
  rw [List.append_assoc, List.replicate_append_replicate]
/-- A whole byte of noughts is laid. -/
theorem eight_at {W w1 : World} {B g : Nat} {v v1 : Value} {bs : List Bool} (h : WAt W B g v bs) (h8 : bs.length % 8 = 0) (hr : BytesAt w1 B v1 (pack bs ++ [0])) (hg : W.grownBy w1 v.ownBlock) :
    WAt ((w1.setCell ⟨g, 1, none⟩ v1).setCell ⟨g, 0, none⟩ (.int .i64 ((bs.length : Int) + 8))) B g v1 (bs ++ List.replicate 8 false) := by
  have h1 := Raw.put (Raw.grown h hg) hr h.2.2
  unfold WAt
  rw [pack_eight bs h8, List.length_append, List.length_replicate]
  exact h1.count
set_option maxHeartbeats 8000000 in
set_option maxRecDepth 100000 in
theorem unary_any (N : Nat) (bs : List Bool) (hN : N ≤ 16777216) (B g : Nat) (v : Value) (w : World) (h : WAt w B g v bs) (hl : bs.length + 16777300 < 1125899906842624) :
    Calls Try.prog 36 #[.pointer (some ⟨g, 0, none⟩), .int .i64 N] w fun e w' => e = .returned (.tuple #[]) ∧ ∃ v', WAt w' B g v' (noughts bs N ++ [true]) ∧ Moved B g w v w' v' := by
  have hup := Try.underlying22
  have H := Aside0.mk h
  clear h
  go_enter Try.func36, Try.ntmps36
  go_wp2
  go_loopg [1] N (fun k n wr => ∃ (v' : Value), k ≤ N ∧ n = .int .i64 k ∧ Aside0 (WAt wr B g v' (noughts bs (N - k))) ∧ Aside0 (Moved B g w v wr v'))
  case atStart => exact ⟨v, by omega, rfl, by rw [Nat.sub_self]; exact ⟨by simpa [noughts] using H.out⟩, ⟨Moved.refl B g w v⟩⟩
  case round =>
    obtain ⟨v', hk, rfl, HE, HM⟩ := hrel
    have hlen := noughts_length bs (N - gk)
    obtain ⟨cs, hcs⟩ : ∃ cs, noughts bs (N - gk) = cs := ⟨_, rfl⟩
    have HCS := Aside0.mk hcs
    rw [hcs] at HE hlen
    have c0 : wr.cell? ⟨g, 0, none⟩ = some (.int .i64 cs.length) := blk_cell HE.out.1 0
    have c1 : wr.cell? ⟨g, 1, none⟩ = some v' := blk_cell HE.out.1 1
    have hcl : cs.length < 1125899906842600 := by omega
    have HPL := Aside0.mk (pack_length cs)
    clear hlen hcs
    by_cases hgo : 8 ≤ gk ∧ cs.length % 8 = 0
    · obtain ⟨g8, h8⟩ := hgo
      have g8' : (8 : Int) ≤ (gk : Int) := by omega
      have h8' : (cs.length : Int) % 8 = 0 := by omega
      have HNX := Aside0.mk (noughts_eight bs (N - gk))
      have H8 := Aside0.mk h8
      clear h8
      go_wp2_with (first | (go_at_call 38; refine (at_any g _ _ c0).mono ?_; rintro e w' ⟨rfl, rfl⟩) | (at_builtin; (with_reducible refine app_list (w0 := w) (B := B) (v := v') (xs := pack cs) (.tmp 18) (.tmp 19) _ ?_ ?_ ?_ ?_ ?_ ?_ ?_ ?_ ?_); rfl; rfl; rfl; rfl; exact HE.out.2.1; exact HM.out.below; exact Nat.le_trans HE.out.2.2 (Nat.le_of_lt HE.out.lt); (rw [HPL.out]; omega); intro v1 w1 HO1 HB1 HG1 HV1; have hb1 := Raw.grown HE.out HG1.out; obtain ⟨A1, k1, e1⟩ := BytesAt.slice HO1.out; subst e1; have c11 : w1.cell? ⟨g, 1, none⟩ = some v' := blk_cell hb1 1; have f11 := blk_frozen hb1 1; have HR1 := Aside0.mk (Raw.put hb1 HO1.out HE.out.2.2)) | (go_at_call 40; refine (on_any g cs.length 8 _ (blk_cell HR1.out.1 0) (blk_frozen HR1.out.1 0) (by omega) (by omega) (by omega) (by omega)).mono ?_; rintro e w' ⟨rfl, rfl⟩))
      go_roundg (gk - 8)
      case measure => omega
      case rel =>
        have hE := eight_at HE.out H8.out HO1.out HG1.out
        have hM := ((Moved.app HM.out HG1.out HB1.out HV1.out).set HE.out.2.2 1 (.slice A1 ((pack cs).length + 1) k1)).set HE.out.2.2 0 (.int .i64 ((cs.length : Int) + 8))
        rw [HCS.out] at HNX
        rw [HNX.out] at hE
        refine ⟨_, by omega, ?_, by rw [show N - (gk - 8) = N - gk + 8 by omega]; exact ⟨hE⟩, ⟨hM⟩⟩
        rw [show ((gk - 8 : Nat) : Int) = (gk : Int) - 8 by omega]
    · have hst : ¬ (8 : Int) ≤ (gk : Int) ∨ ((8 : Int) ≤ (gk : Int) ∧ ((cs.length : Int) % 8 == 0) = false) := by
        rcases Nat.lt_or_ge gk 8 with q | q
        · exact .inl (by omega)
        · refine .inr ⟨by omega, ?_⟩
          simp
          omega
      have HE0 := HE
      have HM0 := HM
      have HCS0 := HCS
      clear hgo
      rcases hst with hst | ⟨hst, hst2⟩
      all_goals
        go_wp2_with (first | (go_at_call 38; refine (at_any g _ _ c0).mono ?_; rintro e w' ⟨rfl, rfl⟩))
        clear HE HM c0 c1 hcl HPL
        go_loopg [1] gk (fun k n wr2 => ∃ (v' : Value), k ≤ N ∧ n = .int .i64 k ∧ Aside0 (WAt wr2 B g v' (noughts bs (N - k))) ∧ Aside0 (Moved B g w v wr2 v'))
        case atStart => exact ⟨v', by omega, rfl, by rw [HCS0.out]; exact HE0, HM0⟩
        case round =>
          clear HE0 HM0 HCS0
          obtain ⟨v', hk, rfl, HE, HM⟩ := hrel
          by_cases hpos : 0 < gk
          · have hpos' : (0 : Int) < (gk : Int) := by omega
            have HB1 := Aside0.mk (bit_any (noughts bs (N - gk)) false B g v' wr HE.out (by rw [noughts_length]; omega))
            go_wp2_with fail
            refine HB1.out.mono ?_
            rintro e w2 ⟨rfl, v2, hE, hM⟩
            rw [noughts_one] at hE
            have HE2 := Aside0.mk hE
            have HM2 := Aside0.mk (HM.out.trans hM)
            clear hE hM HE HM
            obtain ⟨k2, rfl⟩ : ∃ k2, k2 = gk := ⟨_, rfl⟩
            go_wp2
            go_loopg [1] k2 (fun k n wr3 => ∃ (v' : Value), 1 ≤ k ∧ k ≤ k2 ∧ n = .int .i64 k ∧ Aside0 (WAt wr3 B g v' (noughts bs (N - k + 1))) ∧ Aside0 (Moved B g w v wr3 v'))
            case atStart => exact ⟨v2, by omega, by omega, rfl, HE2, HM2⟩
            case round =>
              clear HE2 HM2
              obtain ⟨v3, hj1, hj2, rfl, HE3, HM3⟩ := hrel
              have hlen := noughts_length bs (N - gk + 1)
              obtain ⟨cs2, hcs⟩ : ∃ cs, noughts bs (N - gk + 1) = cs := ⟨_, rfl⟩
              have HCS := Aside0.mk hcs
              rw [hcs] at HE3 hlen
              have c0 : wr.cell? ⟨g, 0, none⟩ = some (.int .i64 cs2.length) := blk_cell HE3.out.1 0
              have c1 : wr.cell? ⟨g, 1, none⟩ = some v3 := blk_cell HE3.out.1 1
              have hcl : cs2.length < 1125899906842610 := by omega
              have HPL := Aside0.mk (pack_length cs2)
              clear hlen hcs
              by_cases hgo : 9 ≤ gk ∧ cs2.length % 8 = 0
              · obtain ⟨g8, h8⟩ := hgo
                have g8' : (8 : Int) < (gk : Int) := by omega
                have h8' : (cs2.length : Int) % 8 = 0 := by omega
                have HNX := Aside0.mk (noughts_eight bs (N - gk + 1))
                have H8 := Aside0.mk h8
                clear h8
                go_wp2_with (first | (go_at_call 38; refine (at_any g _ _ c0).mono ?_; rintro e w' ⟨rfl, rfl⟩) | (at_builtin; (with_reducible refine app_list (w0 := w) (B := B) (v := v3) (xs := pack cs2) (.tmp 49) (.tmp 50) _ ?_ ?_ ?_ ?_ ?_ ?_ ?_ ?_ ?_); rfl; rfl; rfl; rfl; exact HE3.out.2.1; exact HM3.out.below; exact Nat.le_trans HE3.out.2.2 (Nat.le_of_lt HE3.out.lt); (rw [HPL.out]; omega); intro v1 w1 HO1 HB1 HG1 HV1; have hb1 := Raw.grown HE3.out HG1.out; obtain ⟨A1, k1, e1⟩ := BytesAt.slice HO1.out; subst e1; have c11 : w1.cell? ⟨g, 1, none⟩ = some v3 := blk_cell hb1 1; have f11 := blk_frozen hb1 1; have HR1 := Aside0.mk (Raw.put hb1 HO1.out HE3.out.2.2)) | (go_at_call 40; refine (on_any g cs2.length 8 _ (blk_cell HR1.out.1 0) (blk_frozen HR1.out.1 0) (by omega) (by omega) (by omega) (by omega)).mono ?_; rintro e w' ⟨rfl, rfl⟩))
                go_roundg (gk - 8)
                case measure => omega
                case rel =>
                  have hE := eight_at HE3.out H8.out HO1.out HG1.out
                  have hM := ((Moved.app HM3.out HG1.out HB1.out HV1.out).set HE3.out.2.2 1 (.slice A1 ((pack cs2).length + 1) k1)).set HE3.out.2.2 0 (.int .i64 ((cs2.length : Int) + 8))
                  rw [HCS.out] at HNX
                  rw [HNX.out] at hE
                  refine ⟨_, by omega, by omega, ?_, by rw [show N - (gk - 8) + 1 = N - gk + 1 + 8 by omega]; exact ⟨hE⟩, ⟨hM⟩⟩
                  rw [show ((gk - 8 : Nat) : Int) = (gk : Int) - 8 by omega]
              · have hst : ¬ (8 : Int) < (gk : Int) ∨ ((8 : Int) < (gk : Int) ∧ ((cs2.length : Int) % 8 == 0) = false) := by
                  rcases Nat.lt_or_ge gk 9 with q | q
                  · exact .inl (by omega)
                  · refine .inr ⟨by omega, ?_⟩
                    simp
                    omega
                clear hgo
                rcases hst with hst | ⟨hst, hst2⟩
                all_goals
                  go_wp2_with (first | (go_at_call 38; refine (at_any g _ _ c0).mono ?_; rintro e w' ⟨rfl, rfl⟩))
                  go_roundg (gk - 1)
                  case measure => omega
                  case rel => exact ⟨v3, by omega, by rw [show ((gk - 1 : Nat) : Int) = (gk : Int) - 1 by omega], by rw [show N - (gk - 1) = N - gk + 1 by omega, HCS.out]; exact HE3, HM3⟩
          · obtain rfl : gk = 0 := by omega
            have HB1 := Aside0.mk (bit_any (noughts bs (N - 0)) true B g v' wr HE.out (by rw [noughts_length]; omega))
            go_wp2_with fail
            refine HB1.out.mono ?_
            rintro e w2 ⟨rfl, v2, hE, hM⟩
            have HE2 := Aside0.mk hE
            have HM2 := Aside0.mk (HM.out.trans hM)
            clear hE hM
            go_wp2
            refine bodyPost_end (results_none rfl _ _ _) rfl ?_
            exact ⟨rfl, v2, by simpa using HE2.out, HM2.out⟩
end Go.Proofs.Ytlgkaegcocfhdaa.Hand
