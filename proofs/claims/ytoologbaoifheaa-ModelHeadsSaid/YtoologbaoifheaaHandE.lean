/- Contracts of layer 18, proved by hand: an encoder's Finish. -/
import Derived.Test.YtoologbaoifheaaHandD
namespace Go.Proofs.Ytoologbaoifheaa.Hand
open Go.RowKit Go.Proofs.Ytoologbaoifheaa.Q Go.Proofs.YtoologbaoifheaaW.PrintWords Go.Proofs.YtoologbaoifheaaW.PrintLast Go.Proofs.YtoologbaoifheaaW.PrintMore
set_option linter.unusedVariables false
set_option linter.unusedSimpArgs false

def shifts : Nat → Enc → Enc
  | 0, s => s
  | k + 1, s => shiftE (shifts k s)
theorem shifts_ok (s : Enc) (h : Good s) : ∀ k, 0 ≤ (shifts k s).low ∧ (shifts k s).low ≤ 8589934592 ∧ 1 ≤ (shifts k s).count ∧ sizeE (shifts k s) = sizeE s + k
  | 0 => ⟨h.low0, by have := h.low1; have := h.wid0; show s.low ≤ _; omega, h.count, rfl⟩
  | k + 1 => by
    obtain ⟨h1, h2, h3, h4⟩ := shifts_ok s h k
    have e := shiftE_low (shifts k s)
    refine ⟨?_, ?_, shiftE_count _ h3, ?_⟩
    · show 0 ≤ (shiftE (shifts k s)).low; rw [e]; omega
    · show (shiftE (shifts k s)).low ≤ _; rw [e]; omega
    · show sizeE (shiftE (shifts k s)) = _; rw [shiftE_size _ h3, h4]; omega
/-- What an encoder gives. -/
def finishS (s : Enc) : ByteArray := strOfNums (shifts 5 s).out
set_option maxHeartbeats 4000000 in
set_option maxRecDepth 100000 in
theorem Finish_nil (w : World) : Calls Try.prog 25 #[.pointer none] w fun e w' => e = .returned (.string ⟨#[]⟩) ∧ Drawn0 w w' := by
  have hup := Try.underlying42
  go_enter Try.func25, Try.ntmps25
  go_wp2
  go_ret
  exact ⟨rfl, Drawn0.refl _⟩
set_option maxHeartbeats 4000000 in
set_option maxRecDepth 100000 in
theorem Finish_any (s : Enc) (B g : Nat) (v : Value) (w : World) (h : EncAt w B g v s) (hg : Good s) (hl : sizeE s + 8 < 140737488355328) :
    Calls Try.prog 25 #[.pointer (some ⟨g, 0, none⟩)] w fun e w' => e = .returned (.string (finishS s)) ∧ ∃ v', EncAt w' B g v' newE ∧ Moved B g w v w' v' := by
  have hup := Try.underlying42
  have H := Aside0.mk h
  have HG := Aside0.mk hg
  have HL := Aside0.mk hl
  clear h hg hl
  go_enter Try.func25, Try.ntmps25
  go_wp2
  go_loopw [6] (fun i wr => ∃ (d : Nat) (v' : Value), d ≤ 5 ∧ i = .int .i64 d ∧ Aside0 (EncAt wr B g v' (shifts d s)) ∧ Aside0 (Moved B g w v wr v')) (fun i _ => 5 - (intOf i).toNat)
  case atStart => exact ⟨0, v, by omega, rfl, H, ⟨Moved.refl B g w v⟩⟩
  case round =>
    obtain ⟨d, v', hd, rfl, HE, HM⟩ := hrel
    by_cases hlt : d < 5
    · have i1 : (d : Int) < 5 := by omega
      have HO := Aside0.mk (shifts_ok s HG.out d)
      have HSH := Aside0.mk (shift_any (shifts d s) B g v' wr HE.out HO.out.1 (by have := HO.out.2.1; omega) (by have := HO.out.2.2.1; omega) (by have := HO.out.2.2.2; have := HL.out; unfold sizeE at *; omega) (by have := HO.out.2.2.2; have := HL.out; unfold sizeE at *; omega))
      go_wp2_with fail
      refine HSH.out.mono ?_
      rintro e w4 ⟨rfl, v4, hE4, hM4⟩
      have HE4 := Aside0.mk hE4
      have HM4 := Aside0.mk (HM.out.trans hM4)
      clear hE4 hM4
      go_wp2
      go_roundw
      case rel => exact ⟨d + 1, v4, by omega, by go_num, HE4, HM4⟩
      case measure => simp [intOf]; omega
    · obtain rfl : d = 5 := by omega
      have c4 : wr.cell? ⟨g, 4, none⟩ = some v' := HE.out.cell 4
      have hcv := HE.out.2.1.text
      go_wp2_with fail
      refine (New_any _).mono ?_
      rintro e w4 ⟨rfl, rfl⟩
      have HN := Aside0.mk (new_at wr B (Nat.le_trans HE.out.2.2 (Nat.le_of_lt HE.out.lt)))
      have HX := Aside0.mk (HE.out.below (below_alloc (Below.refl wr.heap.size wr) (.cells (encCells newE (.slice none 0 0)) 82)))
      have HMX := Aside0.mk (HM.out.new (below_alloc (Below.refl wr.heap.size wr) (.cells (encCells newE (.slice none 0 0)) 82)) (Nat.le_trans HE.out.2.2 (Nat.le_of_lt HE.out.lt)))
      clear c4 hcv
      obtain ⟨gn, hgn⟩ : ∃ gn, wr.heap.size = gn := ⟨_, rfl⟩
      have HGN := Aside0.mk hgn
      rw [hgn] at HN ⊢
      clear hgn
      generalize wr.alloc (.cells (encCells newE (.slice none 0 0)) 82) = wx at HN HX HMX ⊢
      have n0 : wx.cell? ⟨gn, 0, none⟩ = some (.int .u64 0) := HN.out.cell 0
      have n1 : wx.cell? ⟨gn, 1, none⟩ = some (.int .u32 4294967295) := HN.out.cell 1
      have n2 : wx.cell? ⟨gn, 2, none⟩ = some (.int .u8 0) := HN.out.cell 2
      have n3 : wx.cell? ⟨gn, 3, none⟩ = some (.int .i64 1) := HN.out.cell 3
      have n4 : wx.cell? ⟨gn, 4, none⟩ = some (.slice none 0 0) := HN.out.cell 4
      have g0 : wx.cell? ⟨g, 0, none⟩ = some (.int .u64 (shifts 5 s).low) := HX.out.cell 0
      have g1 : wx.cell? ⟨g, 1, none⟩ = some (.int .u32 (shifts 5 s).width) := HX.out.cell 1
      have g2 : wx.cell? ⟨g, 2, none⟩ = some (.int .u8 (shifts 5 s).held) := HX.out.cell 2
      have g3 : wx.cell? ⟨g, 3, none⟩ = some (.int .i64 (shifts 5 s).count) := HX.out.cell 3
      have g4 : wx.cell? ⟨g, 4, none⟩ = some v' := HX.out.cell 4
      have f0 : wx.frozen? ⟨g, 0, none⟩ = false := blk_frozen HX.out.1 0
      have f1 : wx.frozen? ⟨g, 1, none⟩ = false := blk_frozen HX.out.1 1
      have f2 : wx.frozen? ⟨g, 2, none⟩ = false := blk_frozen HX.out.1 2
      have f3 : wx.frozen? ⟨g, 3, none⟩ = false := blk_frozen HX.out.1 3
      have f4 : wx.frozen? ⟨g, 4, none⟩ = false := blk_frozen HX.out.1 4
      go_wp2
      go_ret
      refine ⟨rfl, .slice none 0 0, EncAt.put ((((HX.out.set (s' := { shifts 5 s with low := 0 }) 0 _ rfl rfl).set (s' := { shifts 5 s with low := 0, width := 4294967295 }) 1 _ rfl rfl).set (s' := { shifts 5 s with low := 0, width := 4294967295, held := 0 }) 2 _ rfl rfl).set (s' := { newE with out := (shifts 5 s).out }) 3 _ rfl rfl).1 (BytesAt.nil _ _) HX.out.2.2, ?_⟩
      have hm := ((((HMX.out.set HX.out.2.2 0 (.int .u64 0)).set HX.out.2.2 1 (.int .u32 4294967295)).set HX.out.2.2 2 (.int .u8 0)).set HX.out.2.2 3 (.int .i64 1)).set HX.out.2.2 4 (.slice none 0 0)
      exact ⟨hm.below, hm.kept, fun k hk => by cases hk⟩
end Go.Proofs.Ytoologbaoifheaa.Hand
