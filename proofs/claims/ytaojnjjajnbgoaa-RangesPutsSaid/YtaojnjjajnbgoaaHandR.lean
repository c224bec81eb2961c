/- Contracts of layer 18, proved by hand: the reference's Finish; RangesPuts. -/
import Derived.Test.YtaojnjjajnbgoaaHandQ
import Derived.Test.YtaojnjjajnbgoaaHandN
namespace Go.Proofs.Ytaojnjjajnbgoaa.Hand
open Go.RowKit Go.Proofs.Ytaojnjjajnbgoaa.Q Go.Proofs.Ytaojnjjajnbgoaa.Math Go.Proofs.YtaojnjjajnbgoaaW.PrintWords Go.Proofs.YtaojnjjajnbgoaaW.PrintLast Go.Proofs.YtaojnjjajnbgoaaW.PrintMore
set_option linter.unusedVariables false
set_option linter.unusedSimpArgs false

theorem shifts_held (s : Enc) (h : Good s) : ∀ k, 0 ≤ (shifts k s).held ∧ (shifts k s).held < 256
  | 0 => ⟨h.held0, h.held1⟩
  | k + 1 => shiftE_held _ (shifts_held s h k).1 (shifts_held s h k).2
set_option maxHeartbeats 4000000 in
set_option maxRecDepth 100000 in
theorem RFinish_any (s : Enc) (B g : Nat) (v : Value) (w : World) (h : RefAt w B g v s) (hg : Good s) (hl : sizeE s + 8 < 140737488355328) :
    Calls Try.prog 14 #[.pointer (some ⟨g, 0, none⟩)] w fun e w' => e = .returned (.string (finishS s)) ∧ ∃ v', RefAt w' B g v' newE ∧ Moved B g w v w' v' := by
  have hup := Try.underlying25
  have H := Aside0.mk h
  have HG := Aside0.mk hg
  have HL := Aside0.mk hl
  clear h hg hl
  go_enter Try.func14, Try.ntmps14
  go_wp2
  go_loopw [3] (fun i wr => ∃ (d : Nat) (v' : Value), d ≤ 5 ∧ i = .int .i64 d ∧ Aside0 (RefAt wr B g v' (shifts d s)) ∧ Aside0 (Moved B g w v wr v')) (fun i _ => 5 - (intOf i).toNat)
  case atStart => exact ⟨0, v, by omega, rfl, H, ⟨Moved.refl B g w v⟩⟩
  case round =>
    obtain ⟨d, v', hd, rfl, HE, HM⟩ := hrel
    by_cases hlt : d < 5
    · have i1 : (d : Int) < 5 := by omega
      have HO := Aside0.mk (shifts_ok s HG.out d)
      have HSH := Aside0.mk (rshift_any (shifts d s) B g v' wr HE.out HO.out.1 (by have := HO.out.2.1; omega) (shifts_held s HG.out d).1 (shifts_held s HG.out d).2 HO.out.2.2.1 (by have := HO.out.2.2.2; have := HL.out; unfold sizeE at *; omega) (by have := HO.out.2.2.2; have := HL.out; unfold sizeE at *; omega))
      go_wp2_with fail
      refine HSH.out.mono ?_
      rintro e w4 ⟨rfl, v4, hE4, hM4⟩
      have HE4 := Aside0.mk hE4
      have HM4 := Aside0.mk (HM.out.trans hM4)
      clear hE4 hM4
      go_wp2
      go_roundw
      case rel => exact ⟨d + 1, v4, by omega, by go_num, HE4, HM4⟩
      case measure => simp [intOf]; omega
    · obtain rfl : d = 5 := by omega
      have c4 : wr.cell? ⟨g, 4, none⟩ = some v' := HE.out.cell 4
      have hcv := HE.out.2.1.text
      have f0 : wr.frozen? ⟨g, 0, none⟩ = false := blk_frozen HE.out.1 0
      have f1 : wr.frozen? ⟨g, 1, none⟩ = false := blk_frozen HE.out.1 1
      have f2 : wr.frozen? ⟨g, 2, none⟩ = false := blk_frozen HE.out.1 2
      have f3 : wr.frozen? ⟨g, 3, none⟩ = false := blk_frozen HE.out.1 3
      have f4 : wr.frozen? ⟨g, 4, none⟩ = false := blk_frozen HE.out.1 4
      have g0 : wr.cell? ⟨g, 0, none⟩ = some (.int .i64 (shifts 5 s).low) := HE.out.cell 0
      have g1 : wr.cell? ⟨g, 1, none⟩ = some (.int .i64 (shifts 5 s).width) := HE.out.cell 1
      have g2 : wr.cell? ⟨g, 2, none⟩ = some (.int .i64 (shifts 5 s).held) := HE.out.cell 2
      have g3 : wr.cell? ⟨g, 3, none⟩ = some (.int .i64 (shifts 5 s).count) := HE.out.cell 3
      go_wp2
      go_ret
      refine ⟨rfl, .slice none 0 0, RefAt.put ((((HE.out.set (s' := { shifts 5 s with low := 0 }) 0 _ rfl rfl).set (s' := { shifts 5 s with low := 0, width := 4294967295 }) 1 _ rfl rfl).set (s' := { shifts 5 s with low := 0, width := 4294967295, held := 0 }) 2 _ rfl rfl).set (s' := { newE with out := (shifts 5 s).out }) 3 _ rfl rfl).1 (BytesAt.nil _ _) HE.out.2.2, ?_⟩
      have hm := ((((HM.out.set HE.out.2.2 0 (.int .i64 0)).set HE.out.2.2 1 (.int .i64 4294967295)).set HE.out.2.2 2 (.int .i64 0)).set HE.out.2.2 3 (.int .i64 1)).set HE.out.2.2 4 (.slice none 0 0)
      exact ⟨hm.below, hm.kept, fun k hk => by cases hk⟩
/-- The program's encoder and the reference's with the same numbers, and a block of the caller's. -/
structure Pair (W : World) (B g g2 : Nat) (v v2 : Value) (s s2 : Enc) (k : Nat) (o : Obj) : Prop where
  enc : EncAt W B g v s
  ref : RefAt W B g2 v2 s2
  apart : Apart g v g2 v2
  blk : W.heap[k]? = some o
  k1 : k ≠ g
  k2 : k ≠ g2
  k3 : v.ownBlock ≠ some k
  k4 : v2.ownBlock ≠ some k
theorem EncAt.own {w : World} {B g : Nat} {v : Value} {s : Enc} (h : EncAt w B g v s) : ∀ k, v.ownBlock = some k → k < w.heap.size := h.2.1.lt
theorem Pair.prog {W W' : World} {B g g2 : Nat} {v v2 v' : Value} {s s2 s' : Enc} {k : Nat} {o : Obj} (h : Pair W B g g2 v v2 s s2 k o) (he : EncAt W' B g v' s') (hm : Moved B g W v W' v') : Pair W' B g g2 v' v2 s' s2 k o :=
  ⟨he, ⟨h.apart.block hm h.ref.1, h.apart.row hm h.ref.2.1, h.ref.2.2⟩, h.apart.moved hm h.ref.lt h.ref.2.1.lt,
    blk_kept h.blk hm.kept (fun hk => hk.elim h.k1 h.k3), h.k1, h.k2, fun e => (hm.own k e).elim h.k3 (fun hle => absurd hle (by have := blk_lt h.blk; omega)), h.k4⟩
theorem Pair.ref_ {W W' : World} {B g g2 : Nat} {v v2 v2' : Value} {s s2 s2' : Enc} {k : Nat} {o : Obj} (h : Pair W B g g2 v v2 s s2 k o) (he : RefAt W' B g2 v2' s2') (hm : Moved B g2 W v2 W' v2') : Pair W' B g g2 v v2' s s2' k o :=
  ⟨⟨h.apart.symm.block hm h.enc.1, h.apart.symm.row hm h.enc.2.1, h.enc.2.2⟩, he, (h.apart.symm.moved hm h.enc.lt h.enc.2.1.lt).symm,
    blk_kept h.blk hm.kept (fun hk => hk.elim h.k2 h.k4), h.k1, h.k2, h.k3, fun e => (hm.own k e).elim h.k4 (fun hle => absurd hle (by have := blk_lt h.blk; omega))⟩
theorem Pair.below {W W' : World} {B g g2 : Nat} {v v2 : Value} {s s2 : Enc} {k : Nat} {o : Obj} (h : Pair W B g g2 v v2 s s2 k o) (hb : Below W.heap.size W W') : Pair W' B g g2 v v2 s s2 k o :=
  ⟨h.enc.below hb, h.ref.below hb, h.apart, blk_below h.blk hb, h.k1, h.k2, h.k3, h.k4⟩
theorem Pair.below0 {W W' : World} {B g g2 : Nat} {v v2 : Value} {s s2 : Enc} {k : Nat} {o : Obj} (h : Pair W B g g2 v v2 s s2 k o) (hb : Drawn0 W W') : Pair W' B g g2 v v2 s s2 k o := by
  obtain ⟨m, rfl⟩ := hb
  exact h.below (pw_below_drewN (Below.refl _ _) m)
/-- Another block of the caller's. -/
theorem Pair.other {W : World} {B g g2 : Nat} {v v2 : Value} {s s2 : Enc} {k : Nat} {o : Obj} (h : Pair W B g g2 v v2 s s2 k o) (o' : Obj) : Pair (W.alloc o') B g g2 v v2 s s2 W.heap.size o' := by
  have hb := below_alloc (Below.refl W.heap.size W) o'
  have h1 := h.enc.lt
  have h2 := h.ref.lt
  exact ⟨h.enc.below hb, h.ref.below hb, h.apart, blk_new W o', by omega, by omega, fun e => absurd (h.enc.2.1.lt _ e) (by omega), fun e => absurd (h.ref.2.1.lt _ e) (by omega)⟩
def doneS (s : Enc) (y : Deed) : Enc := if okDeed y then putE (partOf y).1 (partOf y).2.1 (partOf y).2.2 s else s
def errS (y : Deed) : Int := if okDeed y then 0 else 1
theorem bits_prog (y : Deed) (hy : y.b = true) {W : World} {B g g2 : Nat} {v v2 : Value} {s s2 : Enc} {k : Nat} {o : Obj} (h : Pair W B g g2 v v2 s s2 k o) (hg : Good s) (hw : 16777216 ≤ s.width) (hl : sizeE s + 4 < 140737488355328) :
    Calls Try.prog 9 #[.pointer (some ⟨g, 0, none⟩), .int .i64 y.f, .int .i64 y.n] W fun e w' => e = .returned (.int .i64 (errS y)) ∧ ∃ v', Pair w' B g g2 v' v2 (doneS s y) s2 k o ∧ Below B W w' := by
  have hd : okDeed y = bitsP y.f y.n := by unfold okDeed; rw [hy]; rw [if_pos rfl]
  have hp : partOf y = (y.f, 1, 2 ^ y.n.toNat) := by unfold partOf; rw [hy]; rw [if_pos rfl]
  unfold errS doneS
  rw [hp]
  by_cases hb : bitsP y.f y.n
  · rw [if_pos (hd ▸ hb), if_pos (hd ▸ hb)]
    refine (Bits_yes y.f y.n s B g v W h.enc hg hw hb hl).mono ?_
    rintro e w2 ⟨rfl, v', he, hm⟩
    exact ⟨rfl, v', h.prog he hm, hm.below⟩
  · rw [if_neg (hd ▸ hb), if_neg (hd ▸ hb)]
    refine (Bits_no y.f y.n _ W (.inr hb)).mono ?_
    rintro e w2 ⟨rfl, hdr⟩
    exact ⟨rfl, v, h.below0 hdr, below_drawn (Below.refl _ _) hdr⟩
theorem bits_ref (y : Deed) (hy : y.b = true) {W : World} {B g g2 : Nat} {v v2 : Value} {s s2 : Enc} {k : Nat} {o : Obj} (h : Pair W B g g2 v v2 s s2 k o) (hg : Good s2) (hw : 16777216 ≤ s2.width) (hl : sizeE s2 + 4 < 140737488355328) :
    Calls Try.prog 10 #[.pointer (some ⟨g2, 0, none⟩), .int .i64 y.f, .int .i64 y.n] W fun e w' => e = .returned (.int .i64 (errS y)) ∧ ∃ v', Pair w' B g g2 v v' s (doneS s2 y) k o ∧ Below B W w' := by
  have hd : okDeed y = bitsP y.f y.n := by unfold okDeed; rw [hy]; rw [if_pos rfl]
  have hp : partOf y = (y.f, 1, 2 ^ y.n.toNat) := by unfold partOf; rw [hy]; rw [if_pos rfl]
  unfold errS doneS
  rw [hp]
  by_cases hb : bitsP y.f y.n
  · rw [if_pos (hd ▸ hb), if_pos (hd ▸ hb)]
    refine (RBits_yes y.f y.n s2 B g2 v2 W h.ref hg hw hb hl).mono ?_
    rintro e w2 ⟨rfl, v', he, hm⟩
    exact ⟨rfl, v', h.ref_ he hm, hm.below⟩
  · rw [if_neg (hd ▸ hb), if_neg (hd ▸ hb)]
    refine (RBits_no y.f y.n _ W hb).mono ?_
    rintro e w2 ⟨rfl, hdr⟩
    exact ⟨rfl, v2, h.below0 hdr, below_drawn (Below.refl _ _) hdr⟩
theorem put_prog (y : Deed) (hy : y.b = false) {W : World} {B g g2 : Nat} {v v2 : Value} {s s2 : Enc} {k : Nat} {o : Obj} (h : Pair W B g g2 v v2 s s2 k o) (hg : Good s) (hw : 16777216 ≤ s.width) (hl : sizeE s + 4 < 140737488355328) :
    Calls Try.prog 11 #[.pointer (some ⟨g, 0, none⟩), .int .i64 y.f, .int .i64 y.n, .int .i64 y.t] W fun e w' => e = .returned (.int .i64 (errS y)) ∧ ∃ v', Pair w' B g g2 v' v2 (doneS s y) s2 k o ∧ Below B W w' := by
  have hd : okDeed y = mayP y.f y.n y.t := by unfold okDeed; rw [hy]; rw [if_neg (by decide)]
  have hp : partOf y = (y.f, y.n, y.t) := by unfold partOf; rw [hy]; rw [if_neg (by decide)]
  unfold errS doneS
  rw [hp]
  by_cases hb : mayP y.f y.n y.t
  · rw [if_pos (hd ▸ hb), if_pos (hd ▸ hb)]
    refine (Put_yes y.f y.n y.t s B g v W h.enc hg hw hb hl).mono ?_
    rintro e w2 ⟨rfl, v', he, hm⟩
    exact ⟨rfl, v', h.prog he hm, hm.below⟩
  · rw [if_neg (hd ▸ hb), if_neg (hd ▸ hb)]
    refine (Put_no y.f y.n y.t _ W (.inr hb)).mono ?_
    rintro e w2 ⟨rfl, hdr⟩
    exact ⟨rfl, v, h.below0 hdr, below_drawn (Below.refl _ _) hdr⟩
theorem put_ref (y : Deed) (hy : y.b = false) {W : World} {B g g2 : Nat} {v v2 : Value} {s s2 : Enc} {k : Nat} {o : Obj} (h : Pair W B g g2 v v2 s s2 k o) (hg : Good s2) (hw : 16777216 ≤ s2.width) (hl : sizeE s2 + 4 < 140737488355328) :
    Calls Try.prog 12 #[.pointer (some ⟨g2, 0, none⟩), .int .i64 y.f, .int .i64 y.n, .int .i64 y.t] W fun e w' => e = .returned (.int .i64 (errS y)) ∧ ∃ v', Pair w' B g g2 v v' s (doneS s2 y) k o ∧ Below B W w' := by
  have hd : okDeed y = mayP y.f y.n y.t := by unfold okDeed; rw [hy]; rw [if_neg (by decide)]
  have hp : partOf y = (y.f, y.n, y.t) := by unfold partOf; rw [hy]; rw [if_neg (by decide)]
  unfold errS doneS
  rw [hp]
  by_cases hb : mayP y.f y.n y.t
  · rw [if_pos (hd ▸ hb), if_pos (hd ▸ hb)]
    refine (RPut_yes y.f y.n y.t s2 B g2 v2 W h.ref hg hw hb hl).mono ?_
    rintro e w2 ⟨rfl, v', he, hm⟩
    exact ⟨rfl, v', h.ref_ he hm, hm.below⟩
  · rw [if_neg (hd ▸ hb), if_neg (hd ▸ hb)]
    refine (RPut_no y.f y.n y.t _ W hb).mono ?_
    rintro e w2 ⟨rfl, hdr⟩
    exact ⟨rfl, v2, h.below0 hdr, below_drawn (Below.refl _ _) hdr⟩
theorem done_fits (s : Enc) (y : Deed) (h : Fits s) (hw : 16777216 ≤ s.width) : Fits (doneS s y) ∧ 16777216 ≤ (doneS s y).width ∧ sizeE (doneS s y) ≤ sizeE s + 3 := by
  unfold doneS
  split
  · rename_i hd
    have := put_fits (partOf y).1 (partOf y).2.1 (partOf y).2.2 s h hw (part_may y hd)
    exact ⟨this.1, this.2.1, putE_size _ _ _ s h.good.count⟩
  · exact ⟨h, hw, by omega⟩
end Go.Proofs.Ytaojnjjajnbgoaa.Hand
