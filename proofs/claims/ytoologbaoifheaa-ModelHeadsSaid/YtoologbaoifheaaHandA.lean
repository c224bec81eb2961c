/- Contracts of layer 18, proved by hand: an encoder. -/
import Derived.Test.YtoologbaoifheaaState
import Derived.Deep.DeepCutAuto
namespace Go.Proofs.Ytoologbaoifheaa.Hand
open Go.RowKit Go.Proofs.YtoologbaoifheaaW.PrintWords Go.Proofs.YtoologbaoifheaaW.PrintLast Go.Proofs.YtoologbaoifheaaW.PrintMore
set_option linter.unusedVariables false
set_option linter.unusedSimpArgs false

/-- An encoder's numbers. -/
structure Enc where
  low : Int
  width : Int
  held : Int
  count : Int
  out : List Int
def encCells (s : Enc) (v : Value) : Array Value := #[.int .u64 s.low, .int .u32 s.width, .int .u8 s.held, .int .i64 s.count, v]
/-- An encoder that lies in block g; its bytes are the row v. -/
def EncAt (w : World) (B g : Nat) (v : Value) (s : Enc) : Prop := w.heap[g]? = some (.cells (encCells s v) 82 (0, 0)) ∧ BytesAt w B v s.out ∧ B ≤ g
theorem EncAt.below {w w' : World} {B g : Nat} {v : Value} {s : Enc} (h : EncAt w B g v s) (hb : Below w.heap.size w w') : EncAt w' B g v s := ⟨blk_below h.1 hb, h.2.1.below hb, h.2.2⟩
theorem EncAt.cell {w : World} {B g : Nat} {v : Value} {s : Enc} (h : EncAt w B g v s) (j : Nat) : w.cell? ⟨g, j, none⟩ = (encCells s v)[j]? := blk_cell h.1 j
theorem EncAt.lt {w : World} {B g : Nat} {v : Value} {s : Enc} (h : EncAt w B g v s) : g < w.heap.size := blk_lt h.1
/-- A number of the encoder is turned. -/
theorem EncAt.set {w : World} {B g : Nat} {v : Value} {s s' : Enc} (h : EncAt w B g v s) (j : Nat) (u : Value) (hs : (encCells s v).setIfInBounds j u = encCells s' v) (ho : s'.out = s.out) : EncAt (w.setCell ⟨g, j, none⟩ u) B g v s' :=
  ⟨blk_put h.1 j u hs, ho ▸ h.2.1.set h.1 (by decide) j u, h.2.2⟩
/-- Its row is another one. -/
theorem EncAt.put {w : World} {B g : Nat} {v v1 : Value} {s : Enc} {xs : List Int} (hb : w.heap[g]? = some (.cells (encCells s v) 82 (0, 0))) (hr : BytesAt w B v1 xs) (hB : B ≤ g) : EncAt (w.setCell ⟨g, 4, none⟩ v1) B g v1 { s with out := xs } :=
  ⟨blk_put hb 4 v1 rfl, hr.set hb (by decide) 4 v1, hB⟩
theorem EncAt.grown {W w1 : World} {B g : Nat} {v : Value} {s : Enc} (h : EncAt W B g v s) (hg : W.grownBy w1 v.ownBlock) : w1.heap[g]? = some (.cells (encCells s v) 82 (0, 0)) := by
  rw [hg.block g h.lt (fun e => ?_)]
  · exact h.1
  · have := Kd.R_ne h.2.1.all h.1 (by decide)
    exact this e
/-- Bytes of a carry. -/
def carryOut (s : Enc) : List Int := s.out ++ (s.held + s.low / 4294967296) % 256 :: List.replicate (s.count - 1).toNat ((255 + s.low / 4294967296) % 256)
def carryE (s : Enc) : Enc := { s with out := carryOut s, count := 0, held := s.low / 16777216 % 256 }
set_option maxHeartbeats 4000000 in
set_option maxRecDepth 100000 in
theorem carry_any (s : Enc) (B g : Nat) (v : Value) (w : World) (h : EncAt w B g v s) (hc : s.count ≤ 4611686018427387904) (hl : s.out.length + s.count.toNat < 140737488355328) :
    Calls Try.prog 52 #[.pointer (some ⟨g, 0, none⟩)] w fun e w' => e = .returned (.tuple #[]) ∧ ∃ v', EncAt w' B g v' (carryE s) ∧ Moved B g w v w' v' := by
  have hup := Try.underlying42
  have H := Aside0.mk h
  have c0 : w.cell? ⟨g, 0, none⟩ = some (.int .u64 s.low) := h.cell 0
  have c2 : w.cell? ⟨g, 2, none⟩ = some (.int .u8 s.held) := h.cell 2
  have c4 : w.cell? ⟨g, 4, none⟩ = some v := h.cell 4
  have f4 : w.frozen? ⟨g, 4, none⟩ = false := blk_frozen h.1 4
  have ca : ∀ (j : Nat) (o : Obj), (w.alloc o).cell? ⟨g, j, none⟩ = w.cell? ⟨g, j, none⟩ := fun j o => World.cell?_alloc_lt _ _ _ h.lt
  clear h
  go_enter Try.func52, Try.ntmps52
  go_upto_region 1 with fail
  go_cut [] (fun wx => ∃ v1, Aside0 (EncAt wx B g v1 { s with out := s.out ++ [(s.held + s.low / 4294967296) % 256] }) ∧ Aside0 (Moved B g w v wx v1))
  case first =>
    go_region_law (first | ((with_reducible refine app_step_drew (w0 := w) (B := B) (v := v) (xs := s.out) (.tmp 13) (.tmp 20) _ ?_ ?_ ?_ ?_ ?_ ?_ ?_ ?_ ?_); rfl; rfl; rfl; rfl; exact H.out.2.1; exact Below.refl _ _; exact Nat.le_trans H.out.2.2 (Nat.le_of_lt H.out.lt); omega; intro v1 w1 HO1 HB1 HG1 HV1; have hb1 := EncAt.grown H.out HG1.out; obtain ⟨A1, k1, e1⟩ := BytesAt.slice HO1.out; subst e1; have c41 : w1.cell? ⟨g, 4, none⟩ = some v := blk_cell hb1 4; have f41 := blk_frozen hb1 4))
    all_goals
      have HE := Aside0.mk (EncAt.put hb1 HO1.out H.out.2.2)
      have HM := Aside0.mk ((Moved.app (Moved.refl B g w v) HG1.out HB1.out HV1.out).set H.out.2.2 4 (.slice A1 (s.out.length + 1) k1))
      rw [u8_wrap, show (s.held + s.low / 4294967296 % 256) % 256 = (s.held + s.low / 4294967296) % 256 by omega] at HE
      clear c0 c2 c4 f4 ca c41 f41 hb1 HO1 HB1 HG1 HV1
      go_wp2_with fail
      go_meet
      exact ⟨_, HE, HM⟩
  case rest =>
    obtain ⟨v1, HE, HM⟩ := hcut
    clear c0 c2 c4 f4 ca
    go_wp2
    go_loopg [] (s.count - 1).toNat (fun k wr => ∃ (d : Nat) (v' : Value), d + k = (s.count - 1).toNat ∧ Aside0 (EncAt wr B g v' { s with out := s.out ++ [(s.held + s.low / 4294967296) % 256] ++ List.replicate d ((255 + s.low / 4294967296) % 256), count := s.count - d }) ∧ Aside0 (Moved B g w v wr v'))
    case atStart => exact ⟨0, _, by omega, by simpa using HE, HM⟩
    case round =>
      obtain ⟨d, v', hd, HE', HM'⟩ := hrel
      have c3 : wr.cell? ⟨g, 3, none⟩ = some (.int .i64 (s.count - d)) := HE'.out.cell 3
      by_cases hlt : 1 < s.count - d
      · have c4 : wr.cell? ⟨g, 4, none⟩ = some v' := HE'.out.cell 4
        have f4 : wr.frozen? ⟨g, 4, none⟩ = false := blk_frozen HE'.out.1 4
        have hn : d < (s.count - 1).toNat := by omega
        obtain ⟨xs, hxs⟩ : ∃ xs, s.out ++ [(s.held + s.low / 4294967296) % 256] ++ List.replicate d ((255 + s.low / 4294967296) % 256) = xs := ⟨_, rfl⟩
        have hxl : xs.length < 140737488355328 := by rw [← hxs]; simp; omega
        have HX := Aside0.mk hxs
        rw [hxs] at HE'
        clear hxs
        go_wp2_with (at_builtin; (with_reducible refine app_list (w0 := w) (B := B) (v := v') (xs := xs) (.tmp 40) (.tmp 43) _ ?_ ?_ ?_ ?_ ?_ ?_ ?_ ?_ ?_); rfl; rfl; rfl; rfl; exact HE'.out.2.1; exact HM'.out.below; exact Nat.le_trans HE'.out.2.2 (Nat.le_of_lt HE'.out.lt); exact hxl; intro v1 w1 HO1 HB1 HG1 HV1; have hb1 := EncAt.grown HE'.out HG1.out; obtain ⟨A1, k1, e1⟩ := BytesAt.slice HO1.out; subst e1; have c41 : w1.cell? ⟨g, 4, none⟩ = some v' := blk_cell hb1 4; have f41 := blk_frozen hb1 4; have c31 : w1.cell? ⟨g, 3, none⟩ = some (.int .i64 (s.count - d)) := blk_cell hb1 3; have f31 := blk_frozen hb1 3)
        go_roundg (gk - 1)
        case measure => omega
        case rel =>
          refine ⟨d + 1, _, by omega, ⟨(EncAt.put hb1 HO1.out HE'.out.2.2).set 3 _ ?_ ?_⟩, ⟨((Moved.app HM'.out HG1.out HB1.out HV1.out).set HE'.out.2.2 4 _).set HE'.out.2.2 3 _⟩⟩
          · simp [encCells]; omega
          · rw [List.replicate_succ', ← List.append_assoc, HX.out]
      · have f3 : wr.frozen? ⟨g, 3, none⟩ = false := blk_frozen HE'.out.1 3
        have f2 : wr.frozen? ⟨g, 2, none⟩ = false := blk_frozen HE'.out.1 2
        have c0 : wr.cell? ⟨g, 0, none⟩ = some (.int .u64 s.low) := HE'.out.cell 0
        have c2 : wr.cell? ⟨g, 2, none⟩ = some (.int .u8 s.held) := HE'.out.cell 2
        obtain rfl : d = (s.count - 1).toNat := by omega
        go_wp2
        refine bodyPost_end (results_none rfl _ _ _) rfl ?_
        refine ⟨rfl, v', (HE'.out.set (s' := { carryE s with held := s.held }) 3 (.int .i64 0) ?_ ?_).set 2 _ ?_ rfl, (HM'.out.set HE'.out.2.2 3 _).set HE'.out.2.2 2 _⟩
        · simp [encCells, carryE]
        · simp [carryE, carryOut]
        · simp [encCells, carryE]
end Go.Proofs.Ytoologbaoifheaa.Hand
