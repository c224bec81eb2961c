/- Contracts of layer 18, proved by hand: RangesPuts. -/
import Derived.Test.YtaojnjjajnbgoaaHandR
namespace Go.Proofs.Ytaojnjjajnbgoaa.Hand
open Go.RowKit Go.Proofs.Ytaojnjjajnbgoaa.Q Go.Proofs.Ytaojnjjajnbgoaa.Math Go.Proofs.YtaojnjjajnbgoaaW.PrintWords Go.Proofs.YtaojnjjajnbgoaaW.PrintLast Go.Proofs.YtaojnjjajnbgoaaW.PrintMore
set_option linter.unusedVariables false
set_option linter.unusedSimpArgs false

theorem pair_new {W : World} {B g g2 : Nat} {v v2 : Value} {s s2 : Enc} (h : EncAt W B g v s) (hr : RefAt W B g2 v2 s2) (ha : Apart g v g2 v2) (o' : Obj) : Pair (W.alloc o') B g g2 v v2 s s2 W.heap.size o' := by
  have hb := below_alloc (Below.refl W.heap.size W) o'
  have h1 := h.lt
  have h2 := hr.lt
  exact ⟨h.below hb, hr.below hb, ha, blk_new W o', by omega, by omega, fun e => absurd (h.2.1.lt _ e) (by omega), fun e => absurd (hr.2.1.lt _ e) (by omega)⟩
set_option maxHeartbeats 8000000 in
set_option maxRecDepth 100000 in
theorem Puts_any (A : Option Addr) (n c : Nat) (V : Nat → Deed) (w : World) (hA : Came w A n V) :
    Calls Try.prog 3 #[.slice A n c] w fun e w' => e = .returned (.bool true) ∧ Below w.heap.size w w' := by
  have hup := Try.underlying23
  have HA := Aside0.mk hA
  clear hA
  go_enter Try.func3, Try.ntmps3
  go_wp2_with fail
  refine (New_any _).mono ?_
  rintro e w1 ⟨rfl, rfl⟩
  go_wp2_with fail
  refine (RNew_any _).mono ?_
  rintro e w2 ⟨rfl, rfl⟩
  obtain ⟨g, hg⟩ : ∃ g, w.heap.size = g := ⟨_, rfl⟩
  have hsz : (w.alloc (.cells (encCells newE (.slice none 0 0)) 49)).heap.size = g + 1 := by rw [← hg]; exact Array.size_push _
  have HB := Aside0.mk (((Below.refl w.heap.size w).alloc (Nat.le_refl _) (.cells (encCells newE (.slice none 0 0)) 49)).alloc (by rw [hsz]; omega) (.cells (refCells newE (.slice none 0 0)) 51))
  have he := (new_at w w.heap.size (Nat.le_refl _)).below (below_alloc (Below.refl _ _) (.cells (refCells newE (.slice none 0 0)) 51))
  have hr := rnew_at (w.alloc (.cells (encCells newE (.slice none 0 0)) 49)) w.heap.size (by rw [hsz]; omega)
  rw [hsz] at hr ⊢
  rw [hg] at he hr HB ⊢
  have HE := Aside0.mk he
  have HR := Aside0.mk hr
  have HAP := Aside0.mk (show Apart g (.slice none 0 0) (g + 1) (.slice none 0 0) from ⟨by omega, fun e => by (cases e), fun e => by (cases e), fun k e => by (cases e)⟩)
  have HGS := Aside0.mk hg
  clear hg hsz he hr
  generalize (w.alloc (.cells (encCells newE (.slice none 0 0)) 49)).alloc (.cells (refCells newE (.slice none 0 0)) 51) = w2 at HE HR HB ⊢
  go_wp2
  go_loopw [5, 6, 7] (fun kk i _ wr => ∃ (d : Nat) (v v2 : Value), d ≤ 2 ∧ kk = .int .i64 d ∧ Aside0 (EncAt wr g g v newE) ∧ Aside0 (RefAt wr g (g + 1) v2 newE) ∧ Aside0 (Apart g v (g + 1) v2) ∧ Aside0 (Below g w wr)) (fun kk _ _ _ => 2 - (intOf kk).toNat)
  case atStart => exact ⟨0, _, _, by omega, rfl, HE, HR, HAP, HB⟩
  case round =>
    clear HE HR HAP HB
    obtain ⟨dk, v, v2, hdk, rfl, HE, HR, HAP, HB⟩ := hrel
    by_cases hlk : dk < 2
    · have k1 : (dk : Int) < 2 := by omega
      go_wp2
      go_loopw [6, 7] (fun i _ wr => ∃ (d : Nat) (v v2 : Value) (s : Enc), d ≤ n ∧ d ≤ 300 ∧ i = .int .i64 d ∧ Aside0 (EncAt wr g g v s) ∧ Aside0 (RefAt wr g (g + 1) v2 s) ∧ Aside0 (Apart g v (g + 1) v2) ∧ Aside0 (Fits s ∧ 16777216 ≤ s.width ∧ sizeE s ≤ 1 + 3 * d) ∧ Aside0 (Below g w wr)) (fun i _ _ => 300 - (intOf i).toNat)
      case atStart => exact ⟨0, v, v2, newE, by omega, by omega, rfl, HE, HR, HAP, ⟨new_fits, by decide, by decide⟩, HB⟩
      case round =>
        clear HE HR HAP HB v v2
        obtain ⟨d, v, v2, s, hd, hd2, rfl, HE, HR, HAP, HS, HB⟩ := hrel
        by_cases hlt : d < n ∧ d < 300
        · obtain ⟨l1, l2⟩ := hlt
          have i1 : (d : Int) < (n : Int) := by omega
          have i2 : (d : Int) < 300 := by omega
          obtain ⟨ad, rfl, k0, k1, k2, k3⟩ := HA.out d l1
          rw [Nat.add_zero] at k0
          rw [add_field _ _ 1 (by omega)] at k1
          rw [add_field _ _ 2 (by omega)] at k2
          rw [add_field _ _ 3 (by omega)] at k3
          have HBW : Aside0 (Below w.heap.size w wr) := ⟨by rw [HGS.out]; exact HB.out⟩
          have k0 := pw_cell_below HBW.out k0
          have k1 := pw_cell_below HBW.out k1
          have k2 := pw_cell_below HBW.out k2
          have k3 := pw_cell_below HBW.out k3
          generalize V d = y at k0 k1 k2 k3
          obtain ⟨yb, yf, yn, yt⟩ := y
          cases yb with
          | true =>
            go_wp2
            have HP0 := Aside0.mk (pair_new HE.out HR.out HAP.out (.cells #[.bool true, .int .i64 yf, .int .i64 yn, .int .i64 yt] 28))
            have HB0 := Aside0.mk (HB.out.alloc (Nat.le_of_lt HE.out.lt) (.cells #[.bool true, .int .i64 yf, .int .i64 yn, .int .i64 yt] 28))
            have HF := Aside0.mk (done_fits s ⟨true, yf, yn, yt⟩ HS.out.1 HS.out.2.1)
            clear k0 k1 k2 k3 HE HR HAP HBW
            generalize wr.alloc (.cells #[.bool true, .int .i64 yf, .int .i64 yn, .int .i64 yt] 28) = wx at HP0 HB0 ⊢
            generalize wr.heap.size = q at HP0 ⊢
            have HC : Aside0 (∀ W : World, W.heap[q]? = some (.cells #[.bool true, .int .i64 yf, .int .i64 yn, .int .i64 yt] 28 (0, 0)) → W.cell? ⟨q, 1, none⟩ = some (.int .i64 yf) ∧ W.cell? ⟨q, 2, none⟩ = some (.int .i64 yn)) := ⟨fun W hW => ⟨blk_cell hW 1, blk_cell hW 2⟩⟩
            have hq : wx.drew.heap[q]? = _ := HP0.out.blk
            obtain ⟨e1, e2⟩ := HC.out wx.drew hq
            have HCT := Aside0.mk (bits_prog ⟨true, yf, yn, yt⟩ rfl (HP0.out.below (below_drew (Below.refl _ _)) : Pair wx.drew _ _ _ _ _ _ _ _ _) HS.out.1.good HS.out.2.1 (by have := HS.out.2.2; omega))
            have HCR : Aside0 (∀ (W : World) (v v2 : Value) (s1 : Enc), Pair W g g (g + 1) v v2 s1 s q (.cells #[.bool true, .int .i64 yf, .int .i64 yn, .int .i64 yt] 28 (0, 0)) → Calls Try.prog 10 #[.pointer (some ⟨g + 1, 0, none⟩), .int .i64 yf, .int .i64 yn] W fun e w' => e = .returned (.int .i64 (errS ⟨true, yf, yn, yt⟩)) ∧ ∃ v', Pair w' g g (g + 1) v v' s1 (doneS s ⟨true, yf, yn, yt⟩) q (.cells #[.bool true, .int .i64 yf, .int .i64 yn, .int .i64 yt] 28 (0, 0)) ∧ Below g W w') :=
              ⟨fun W v v2 s1 h => bits_ref ⟨true, yf, yn, yt⟩ rfl h HS.out.1.good HS.out.2.1 (by have := HS.out.2.2; omega)⟩
            generalize doneS s ⟨true, yf, yn, yt⟩ = s3 at HCT HCR HF
            generalize errS ⟨true, yf, yn, yt⟩ = er at HCT HCR
            go_region_held3 (fun W => W.cell? ⟨q, 1, none⟩ = some (.int .i64 yf) ∧ W.cell? ⟨q, 2, none⟩ = some (.int .i64 yn)) (first | exact HC.out _ hq | exact HC.out _ HP0.out.blk)
              ((first
                | (go_at_call 9; (with_reducible refine HCT.out.mono ?_); rintro e w3 ⟨rfl, v3, hP3, hB3⟩; have HP3 := Aside0.mk hP3; have HB3 := Aside0.mk ((below_drew HB0.out).trans hB3); have hq3 := hP3.blk; clear hP3 hB3 hq; have hq := hq3; clear hq3)
                | (go_at_call 10; (with_reducible refine (HCR.out _ _ _ _ (by exact HP3.out)).mono ?_); rintro e w4 ⟨rfl, v4, hP4, hB4⟩; have HP4 := Aside0.mk hP4; have HB4 := Aside0.mk (HB3.out.trans hB4); have hq4 := hP4.blk; clear hP4 hB4 hq; have hq := hq4; clear hq4)))
            all_goals
              go_wp2
              go_roundw
              case rel => exact ⟨d + 1, v3, v4, s3, by omega, by omega, by go_num, ⟨HP4.out.enc⟩, ⟨HP4.out.ref⟩, ⟨HP4.out.apart⟩, ⟨HF.out.1, HF.out.2.1, by have := HF.out.2.2; have := HS.out.2.2; omega⟩, HB4⟩
              case measure => simp [intOf]; omega
          | false =>
            go_wp2
            have HP0 := Aside0.mk (pair_new HE.out HR.out HAP.out (.cells #[.bool false, .int .i64 yf, .int .i64 yn, .int .i64 yt] 28))
            have HB0 := Aside0.mk (HB.out.alloc (Nat.le_of_lt HE.out.lt) (.cells #[.bool false, .int .i64 yf, .int .i64 yn, .int .i64 yt] 28))
            have HF := Aside0.mk (done_fits s ⟨false, yf, yn, yt⟩ HS.out.1 HS.out.2.1)
            clear k0 k1 k2 k3 HE HR HAP HBW
            generalize wr.alloc (.cells #[.bool false, .int .i64 yf, .int .i64 yn, .int .i64 yt] 28) = wx at HP0 HB0 ⊢
            generalize wr.heap.size = q at HP0 ⊢
            have HC : Aside0 (∀ W : World, W.heap[q]? = some (.cells #[.bool false, .int .i64 yf, .int .i64 yn, .int .i64 yt] 28 (0, 0)) → W.cell? ⟨q, 1, none⟩ = some (.int .i64 yf) ∧ W.cell? ⟨q, 2, none⟩ = some (.int .i64 yn) ∧ W.cell? ⟨q, 3, none⟩ = some (.int .i64 yt)) := ⟨fun W hW => ⟨blk_cell hW 1, blk_cell hW 2, blk_cell hW 3⟩⟩
            have hq : wx.drew.heap[q]? = _ := HP0.out.blk
            obtain ⟨e1, e2, e3⟩ := HC.out wx.drew hq
            have HCT := Aside0.mk (put_prog ⟨false, yf, yn, yt⟩ rfl (HP0.out.below (below_drew (Below.refl _ _)) : Pair wx.drew _ _ _ _ _ _ _ _ _) HS.out.1.good HS.out.2.1 (by have := HS.out.2.2; omega))
            have HCR : Aside0 (∀ (W : World) (v v2 : Value) (s1 : Enc), Pair W g g (g + 1) v v2 s1 s q (.cells #[.bool false, .int .i64 yf, .int .i64 yn, .int .i64 yt] 28 (0, 0)) → Calls Try.prog 12 #[.pointer (some ⟨g + 1, 0, none⟩), .int .i64 yf, .int .i64 yn, .int .i64 yt] W fun e w' => e = .returned (.int .i64 (errS ⟨false, yf, yn, yt⟩)) ∧ ∃ v', Pair w' g g (g + 1) v v' s1 (doneS s ⟨false, yf, yn, yt⟩) q (.cells #[.bool false, .int .i64 yf, .int .i64 yn, .int .i64 yt] 28 (0, 0)) ∧ Below g W w') :=
              ⟨fun W v v2 s1 h => put_ref ⟨false, yf, yn, yt⟩ rfl h HS.out.1.good HS.out.2.1 (by have := HS.out.2.2; omega)⟩
            generalize doneS s ⟨false, yf, yn, yt⟩ = s3 at HCT HCR HF
            generalize errS ⟨false, yf, yn, yt⟩ = er at HCT HCR
            go_region_held3 (fun W => W.cell? ⟨q, 1, none⟩ = some (.int .i64 yf) ∧ W.cell? ⟨q, 2, none⟩ = some (.int .i64 yn) ∧ W.cell? ⟨q, 3, none⟩ = some (.int .i64 yt)) (first | exact HC.out _ hq | exact HC.out _ HP0.out.blk)
              ((first
                | (go_at_call 11; (with_reducible refine HCT.out.mono ?_); rintro e w3 ⟨rfl, v3, hP3, hB3⟩; have HP3 := Aside0.mk hP3; have HB3 := Aside0.mk ((below_drew HB0.out).trans hB3); have hq3 := hP3.blk; clear hP3 hB3 hq; have hq := hq3; clear hq3)
                | (go_at_call 12; (with_reducible refine (HCR.out _ _ _ _ (by exact HP3.out)).mono ?_); rintro e w4 ⟨rfl, v4, hP4, hB4⟩; have HP4 := Aside0.mk hP4; have HB4 := Aside0.mk (HB3.out.trans hB4); have hq4 := hP4.blk; clear hP4 hB4 hq; have hq := hq4; clear hq4)))
            all_goals
              go_wp2
              go_roundw
              case rel => exact ⟨d + 1, v3, v4, s3, by omega, by omega, by go_num, ⟨HP4.out.enc⟩, ⟨HP4.out.ref⟩, ⟨HP4.out.apart⟩, ⟨HF.out.1, HF.out.2.1, by have := HF.out.2.2; have := HS.out.2.2; omega⟩, HB4⟩
              case measure => simp [intOf]; omega
        · have hlt2 : ¬ ((d : Int) < (n : Int)) ∨ ¬ ((d : Int) < 300) := by omega
          clear hlt
          go_wp2_with fail
          all_goals first
            | (exfalso; omega)
            | skip
          all_goals
            refine (Finish_any s g g v wr HE.out HS.out.1.good (by have := HS.out.2.2; omega)).mono ?_
            rintro e w3 ⟨rfl, v3, hE, hM⟩
            have HE3 := Aside0.mk hE
            have HR3 : Aside0 (RefAt w3 g (g + 1) v2 s) := ⟨⟨HAP.out.block hM HR.out.1, HAP.out.row hM HR.out.2.1, HR.out.2.2⟩⟩
            have HAP3 := Aside0.mk (HAP.out.moved hM HR.out.lt HR.out.2.1.lt)
            have HB3 := Aside0.mk (HB.out.trans hM.below)
            clear hE hM HE HR HAP HB
            obtain ⟨S, hS⟩ : ∃ S, finishS s = S := ⟨_, rfl⟩
            have HFI := Aside0.mk (hS ▸ RFinish_any s g (g + 1) v2 w3 HR3.out HS.out.1.good (by have := HS.out.2.2; omega))
            rw [hS]
            clear hS
            go_wp2_with fail
            refine HFI.out.mono ?_
            rintro e w4 ⟨rfl, v4, hE, hM⟩
            have HR4 := Aside0.mk hE
            have HE4 : Aside0 (EncAt w4 g g v3 newE) := ⟨⟨HAP3.out.symm.block hM HE3.out.1, HAP3.out.symm.row hM HE3.out.2.1, HE3.out.2.2⟩⟩
            have HAP4 := Aside0.mk (HAP3.out.symm.moved hM HE3.out.lt HE3.out.2.1.lt).symm
            have HB4 := Aside0.mk (HB3.out.trans hM.below)
            clear hE hM HE3 HR3 HAP3 HB3 HFI
            go_wp2
            go_roundw
            case rel => exact ⟨dk + 1, v3, v4, by omega, by go_num, HE4, HR4, HAP4, HB4⟩
            case measure => simp [intOf]; omega
    · obtain rfl : dk = 2 := by omega
      go_wp2_with fail
      refine (awake_any _).mono ?_
      rintro e w5 ⟨rfl, hB5⟩
      have HB5 := Aside0.mk (HB.out.trans (hB5.mono (Nat.le_of_lt HE.out.lt)))
      clear hB5
      go_wp2
      go_ret
      rw [HGS.out]
      exact ⟨rfl, HB5.out⟩
end Go.Proofs.Ytaojnjjajnbgoaa.Hand
