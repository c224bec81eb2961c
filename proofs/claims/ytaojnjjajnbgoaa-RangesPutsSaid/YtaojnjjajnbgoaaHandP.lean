/- Contracts of layer 18, proved by hand: the reference's encoder. -/
import Derived.Test.YtaojnjjajnbgoaaHandO
namespace Go.Proofs.Ytaojnjjajnbgoaa.Hand
open Go.RowKit Go.Proofs.Ytaojnjjajnbgoaa.Q Go.Proofs.YtaojnjjajnbgoaaW.PrintWords Go.Proofs.YtaojnjjajnbgoaaW.PrintLast Go.Proofs.YtaojnjjajnbgoaaW.PrintMore
set_option linter.unusedVariables false
set_option linter.unusedSimpArgs false

def refCells (s : Enc) (v : Value) : Array Value := #[.int .i64 s.low, .int .i64 s.width, .int .i64 s.held, .int .i64 s.count, v]
/-- The reference's encoder in block g. -/
def RefAt (w : World) (B g : Nat) (v : Value) (s : Enc) : Prop := w.heap[g]? = some (.cells (refCells s v) 51 (0, 0)) ∧ BytesAt w B v s.out ∧ B ≤ g
theorem RefAt.below {w w' : World} {B g : Nat} {v : Value} {s : Enc} (h : RefAt w B g v s) (hb : Below w.heap.size w w') : RefAt w' B g v s := ⟨blk_below h.1 hb, h.2.1.below hb, h.2.2⟩
theorem RefAt.cell {w : World} {B g : Nat} {v : Value} {s : Enc} (h : RefAt w B g v s) (j : Nat) : w.cell? ⟨g, j, none⟩ = (refCells s v)[j]? := blk_cell h.1 j
theorem RefAt.lt {w : World} {B g : Nat} {v : Value} {s : Enc} (h : RefAt w B g v s) : g < w.heap.size := blk_lt h.1
theorem RefAt.set {w : World} {B g : Nat} {v : Value} {s s' : Enc} (h : RefAt w B g v s) (j : Nat) (u : Value) (hs : (refCells s v).setIfInBounds j u = refCells s' v) (ho : s'.out = s.out) : RefAt (w.setCell ⟨g, j, none⟩ u) B g v s' :=
  ⟨blk_put h.1 j u hs, ho ▸ h.2.1.set h.1 (by decide) j u, h.2.2⟩
theorem RefAt.put {w : World} {B g : Nat} {v v1 : Value} {s : Enc} {xs : List Int} (hb : w.heap[g]? = some (.cells (refCells s v) 51 (0, 0))) (hr : BytesAt w B v1 xs) (hB : B ≤ g) : RefAt (w.setCell ⟨g, 4, none⟩ v1) B g v1 { s with out := xs } :=
  ⟨blk_put hb 4 v1 rfl, hr.set hb (by decide) 4 v1, hB⟩
theorem RefAt.grown {W w1 : World} {B g : Nat} {v : Value} {s : Enc} (h : RefAt W B g v s) (hg : W.grownBy w1 v.ownBlock) : w1.heap[g]? = some (.cells (refCells s v) 51 (0, 0)) := by
  rw [hg.block g h.lt (fun e => ?_)]
  · exact h.1
  · have := Kd.R_ne h.2.1.all h.1 (by decide)
    exact this e
theorem carryOut_rounds (s : Enc) (h : 1 ≤ s.count) : carryOut s = s.out ++ (s.held + s.low / 4294967296) % 256 :: List.replicate (s.count.toNat - 1) ((255 + s.low / 4294967296) % 256) := by
  unfold carryOut
  rw [show (s.count - 1).toNat = s.count.toNat - 1 by omega]
/-- What the reference's loop lays in d rounds, and what it lays next. -/
def laid (s : Enc) : Nat → List Int
  | 0 => s.out
  | d + 1 => s.out ++ (s.held + s.low / 4294967296) % 256 :: List.replicate d ((255 + s.low / 4294967296) % 256)
def nextC (s : Enc) : Nat → Int
  | 0 => s.held
  | _ + 1 => 255
theorem laid_succ (s : Enc) : ∀ d, laid s (d + 1) = laid s d ++ [(nextC s d + s.low / 4294967296) % 256]
  | 0 => by simp [laid, nextC]
  | d + 1 => by simp [laid, nextC, List.replicate_succ']
theorem laid_length (s : Enc) : ∀ d, (laid s d).length = s.out.length + d
  | 0 => rfl
  | d + 1 => by simp [laid]
theorem nextC_in (s : Enc) (h0 : 0 ≤ s.held) (h1 : s.held < 256) (d : Nat) : 0 ≤ nextC s d ∧ nextC s d < 256 := by
  cases d with
  | zero => exact ⟨h0, h1⟩
  | succ d => exact ⟨(by decide : (0 : Int) ≤ 255), (by decide : (255 : Int) < 256)⟩
set_option maxHeartbeats 4000000 in
set_option maxRecDepth 100000 in
theorem rshift_any (s : Enc) (B g : Nat) (v : Value) (w : World) (h : RefAt w B g v s) (h0 : 0 ≤ s.low) (h1 : s.low < 72057594037927936) (a0 : 0 ≤ s.held) (a1 : s.held < 256) (hc0 : 1 ≤ s.count) (hc : s.count ≤ 4611686018427387904) (hl : s.out.length + s.count.toNat < 140737488355328) :
    Calls Try.prog 24 #[.pointer (some ⟨g, 0, none⟩)] w fun e w' => e = .returned (.tuple #[]) ∧ ∃ v', RefAt w' B g v' (shiftE s) ∧ Moved B g w v w' v' := by
  have hup := Try.underlying25
  have H := Aside0.mk h
  have c0 : w.cell? ⟨g, 0, none⟩ = some (.int .i64 s.low) := h.cell 0
  have c2 : w.cell? ⟨g, 2, none⟩ = some (.int .i64 s.held) := h.cell 2
  have c3 : w.cell? ⟨g, 3, none⟩ = some (.int .i64 s.count) := h.cell 3
  have f0 : w.frozen? ⟨g, 0, none⟩ = false := blk_frozen h.1 0
  have f3 : w.frozen? ⟨g, 3, none⟩ = false := blk_frozen h.1 3
  have hand1 := and_mask_i64 24 (by decide) s.low 16777215 h0 (by omega) rfl
  have hand2 := and_mask_i64 8 (by decide) (s.low / 16777216) 255 (by omega) (by omega) rfl
  rw [show (2 : Int) ^ 24 = 16777216 from rfl] at hand1
  rw [show (2 : Int) ^ 8 = 256 from rfl] at hand2
  have hlow : s.low % 16777216 * 256 = s.low * 256 % 4294967296 := by omega
  have HLOW := Aside0.mk hlow
  clear h hlow
  by_cases hf : flushes s
  · have hE : shiftE s = onE (carryE s) := by unfold shiftE; rw [if_pos hf]
    have HE := Aside0.mk hE
    have hd := hf
    unfold flushes at hd
    have HCR := Aside0.mk (carryOut_rounds s hc0)
    clear hE hf
    have hd2 : s.low < 4278190080 ∨ ¬ s.low < 4278190080 ∧ 4294967296 ≤ s.low := by omega
    clear hd
    rcases hd2 with hd | ⟨hd, hd'⟩
    all_goals
      go_enter Try.func24, Try.ntmps24
      go_wp2
      go_loopg [3] s.count.toNat (fun k c wr => ∃ (d : Nat) (v' : Value), d + k = s.count.toNat ∧ c = .int .i64 (nextC s d) ∧ Aside0 (RefAt wr B g v' { s with out := laid s d, count := s.count - d }) ∧ Aside0 (Moved B g w v wr v'))
      case atStart => exact ⟨0, v, by omega, rfl, by simpa [laid] using H, ⟨Moved.refl B g w v⟩⟩
      case round =>
        obtain ⟨d, v', hdk, rfl, HE', HM'⟩ := hrel
        clear c0 c2 c3 f0 f3
        have c0 : wr.cell? ⟨g, 0, none⟩ = some (.int .i64 s.low) := HE'.out.cell 0
        have c2 : wr.cell? ⟨g, 2, none⟩ = some (.int .i64 s.held) := HE'.out.cell 2
        have c3 : wr.cell? ⟨g, 3, none⟩ = some (.int .i64 (s.count - d)) := HE'.out.cell 3
        have c4 : wr.cell? ⟨g, 4, none⟩ = some v' := HE'.out.cell 4
        have f0 : wr.frozen? ⟨g, 0, none⟩ = false := blk_frozen HE'.out.1 0
        have f2 : wr.frozen? ⟨g, 2, none⟩ = false := blk_frozen HE'.out.1 2
        have f3 : wr.frozen? ⟨g, 3, none⟩ = false := blk_frozen HE'.out.1 3
        have f4 : wr.frozen? ⟨g, 4, none⟩ = false := blk_frozen HE'.out.1 4
        by_cases hlt : 0 < s.count - d
        · obtain ⟨xs, hxs⟩ : ∃ xs, laid s d = xs := ⟨_, rfl⟩
          have hxl : xs.length < 140737488355328 := by rw [← hxs, laid_length]; omega
          have HX := Aside0.mk (show laid s (d + 1) = xs ++ [(nextC s d + s.low / 4294967296) % 256] by rw [laid_succ, hxs])
          have HN := Aside0.mk (show (255 : Int) = nextC s (d + 1) from rfl)
          obtain ⟨n0, n1⟩ := nextC_in s a0 a1 d
          rw [hxs] at HE'
          generalize nextC s d = cc at n0 n1 HX ⊢
          clear hxs
          go_wp2_with (at_builtin; (with_reducible refine app_list (w0 := w) (B := B) (v := v') (xs := xs) (.tmp 41) (.tmp 46) _ ?_ ?_ ?_ ?_ ?_ ?_ ?_ ?_ ?_); rfl; rfl; rfl; rfl; exact HE'.out.2.1; exact HM'.out.below; exact Nat.le_trans HE'.out.2.2 (Nat.le_of_lt HE'.out.lt); exact hxl; intro v1 w1 HO1 HB1 HG1 HV1; have hb1 := RefAt.grown HE'.out HG1.out; obtain ⟨A1, k1, e1⟩ := BytesAt.slice HO1.out; subst e1; have c41 : w1.cell? ⟨g, 4, none⟩ = some v' := blk_cell hb1 4; have f41 := blk_frozen hb1 4; have c31 : w1.cell? ⟨g, 3, none⟩ = some (.int .i64 (s.count - d)) := blk_cell hb1 3; have f31 := blk_frozen hb1 3)
          go_roundg (gk - 1)
          case measure => omega
          case rel =>
            refine ⟨d + 1, _, by omega, by rw [HN.out], ⟨(RefAt.put hb1 HO1.out HE'.out.2.2).set 3 _ ?_ ?_⟩, ⟨((Moved.app HM'.out HG1.out HB1.out HV1.out).set HE'.out.2.2 4 _).set HE'.out.2.2 3 _⟩⟩
            · simp [refCells]; omega
            · first
                | exact HX.out
                | (refine HX.out.trans ?_; show _ = xs ++ [cc + s.low / 4294967296]; rw [show (cc + s.low / 4294967296) % 256 = cc + s.low / 4294967296 by omega])
        · obtain rfl : d = s.count.toNat := by omega
          go_wp2
          refine bodyPost_end (results_none rfl _ _ _) rfl ?_
          rw [HE.out]
          refine ⟨rfl, v', ((HE'.out.set (s' := { s with out := laid s s.count.toNat, count := s.count - s.count.toNat, held := s.low / 16777216 % 256 }) 2 _ ?_ rfl).set (s' := { s with out := laid s s.count.toNat, count := 1, held := s.low / 16777216 % 256 }) 3 _ ?_ rfl).set 0 _ ?_ ?_, ((HM'.out.set H.out.2.2 2 _).set H.out.2.2 3 _).set H.out.2.2 0 _⟩
          · simp [refCells, hand2]
          · simp [refCells]; try omega
          · simp [refCells, carryE, onE, hand1, HLOW.out]
          · have e1 := HCR.out
            obtain ⟨d, hd3⟩ : ∃ d, s.count.toNat = d + 1 := ⟨s.count.toNat - 1, by omega⟩
            simp [onE, carryE, e1, hd3, laid]
  · have hE : shiftE s = onE s := by unfold shiftE; rw [if_neg hf]
    have HE := Aside0.mk hE
    have hd := hf
    unfold flushes at hd
    have d1 : ¬ s.low < 4278190080 := fun h => hd (.inl h)
    have d2 : s.low < 4294967296 := by omega
    clear hE hf hd
    go_enter Try.func24, Try.ntmps24
    go_wp2
    refine bodyPost_end (results_none rfl _ _ _) rfl ?_
    rw [HE.out]
    refine ⟨rfl, v, (H.out.set (s' := { s with count := s.count + 1 }) 3 _ ?_ rfl).set 0 _ ?_ rfl, ((Moved.refl B g w v).set H.out.2.2 3 _).set H.out.2.2 0 _⟩
    · simp [refCells]
    · simp [refCells, onE, hand1, HLOW.out]
end Go.Proofs.Ytaojnjjajnbgoaa.Hand
