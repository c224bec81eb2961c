/- Contracts of layer 18, proved by hand: a decoder's Take goes through. -/
import Derived.Test.YtoologbaoifheaaHandI
namespace Go.Proofs.Ytoologbaoifheaa.Hand
open Go.RowKit Go.Proofs.Ytoologbaoifheaa.Q Go.Proofs.YtoologbaoifheaaW.PrintWords Go.Proofs.YtoologbaoifheaaW.PrintLast Go.Proofs.YtoologbaoifheaaW.PrintMore
set_option linter.unusedVariables false
set_option linter.unusedSimpArgs false
/-- A part is taken. -/
def onD (f n t : Int) (d : Dec) : Int × Dec := normD 3 (partD f n t d)
set_option maxHeartbeats 4000000 in
set_option maxRecDepth 100000 in
theorem Take_on (d : Dec) (f n t : Int) (hm : mayP f n t) (hg : GoodD d) (hb : d.bad = false) (h1 : ¬ ((peekD d t).1 < f ∨ n ≤ (peekD d t).1 - f)) (hsz : d.s.size ≤ 9223372036854775807) (B g : Nat) (hB : B ≤ g) (w : World) (h : DecAt w g d) :
    Calls Try.prog 50 #[.pointer (some ⟨g, 0, none⟩), .int .i64 f, .int .i64 n, .int .i64 t] w fun e w' => e = .returned (.int .i64 (onD f n t d).1) ∧ DecAt w' g (onD f n t d).2 ∧ Turned B g w w' := by
  have hup := Try.underlying67
  have HM := Aside0.mk hm
  have HD := Aside0.mk h
  have hp := (peek_fine d f n t hb hm).1
  have HG := Aside0.mk hg
  have HMID := Aside0.mk (partD_mid d f n t hg hb hm h1)
  have hle := peek_le d f n t hg hb hm h1
  have hk := Peek_any d t g
  rw [hp] at hk
  obtain ⟨x, hx⟩ : ∃ x, (peekD d t).1 = x := ⟨_, rfl⟩
  rw [hx] at hk h1
  have HK := Aside0.mk hk
  have hn1 : ¬ x < f := fun h => h1 (.inl h)
  have hn2 : ¬ n ≤ x - f := fun h => h1 (.inr h)
  obtain ⟨m1, m2, m3, m4, m5, m6⟩ := hm
  have hw := hg.wid0 hb
  have ww0 := hg.wid1
  have k0 := hg.code0
  have k1 := hg.code1
  have x1 : x < 65536 := by omega
  have x0 : 0 ≤ x := by omega
  clear h hp hg hk hx h1
  go_enter Try.func50, Try.ntmps50
  go_wp2_with fail
  refine (may_yes f n t HM.out _).mono ?_
  rintro e w1 ⟨rfl, ⟨m, rfl⟩⟩
  go_wp2_with fail
  refine (HK.out _ (HD.out.below (pw_below_drewN (Below.refl _ _) m)) HG.out).mono ?_
  rintro e w2 ⟨rfl, ⟨q, rfl⟩⟩
  have HD2 : Aside0 (DecAt ((w.drewN m).drewN q) g d) := ⟨(HD.out.below (pw_below_drewN (Below.refl _ _) m)).below (pw_below_drewN (Below.refl _ _) q)⟩
  have HT2 : Aside0 (Turned B g w ((w.drewN m).drewN q)) := ⟨((Turned.refl B g w).drewN m).drewN q⟩
  generalize (w.drewN m).drewN q = wy at HD2 HT2 ⊢
  have c2 : wy.cell? ⟨g, 2, none⟩ = some (.int .u32 d.code) := HD2.out.cell 2
  have c3 : wy.cell? ⟨g, 3, none⟩ = some (.int .u32 d.width) := HD2.out.cell 3
  have f2 : wy.frozen? ⟨g, 2, none⟩ = false := blk_frozen HD2.out 2
  have f3 : wy.frozen? ⟨g, 3, none⟩ = false := blk_frozen HD2.out 3
  have r0 : 1 ≤ d.width / t := by
    have := Int.ediv_le_ediv (show (0 : Int) < t by omega) (show t ≤ d.width by omega)
    rwa [Int.ediv_self (by omega)] at this
  have r1 : d.width / t * t ≤ d.width := Int.ediv_mul_le _ (by omega)
  have r2 : d.width / t * f + d.width / t * n ≤ d.width / t * t := by
    rw [← Int.mul_add]
    exact Int.mul_le_mul_of_nonneg_left (by omega) (by omega)
  have p0 : 0 ≤ d.width / t * f := Int.mul_nonneg (by omega) m3
  have q0 : 0 ≤ d.width / t * n := Int.mul_nonneg (by omega) (by omega)
  have p1 : d.width / t * f < 4294967296 := by omega
  have q1 : d.width / t * n < 4294967296 := by omega
  have r3 : d.width / t < 4294967296 := by
    have := Int.ediv_le_self (a := d.width) t (by omega)
    omega
  clear r1 r2
  go_wp2
  have HD3 := Aside0.mk ((HD2.out.set (d' := { d with code := d.code - d.width / t * f }) 2 (.int .u32 (d.code - d.width / t * f)) rfl).set (d' := partD f n t d) 3 (.int .u32 (d.width / t * n)) rfl)
  have HT3 := Aside0.mk ((HT2.out.set hB 2 (.int .u32 (d.code - d.width / t * f))).set hB 3 (.int .u32 (d.width / t * n)))
  generalize (wy.setCell ⟨g, 2, none⟩ (.int .u32 (d.code - d.width / t * f))).setCell ⟨g, 3, none⟩ (.int .u32 (d.width / t * n)) = wz at HD3 HT3 ⊢
  have hsd : (partD f n t d).s = d.s := rfl
  have hpe : onD f n t d = normD 3 (partD f n t d) := rfl
  generalize partD f n t d = d1 at HMID HD3 hsd hpe
  have HPE := Aside0.mk hpe
  clear hpe
  have HSD := Aside0.mk hsd
  clear c2 c3 f2 f3 r0 p0 q0 p1 q1 r3 hsd hle hw ww0 k0 k1 x0 x1 hn1 hn2 HK HG HM HD HD2
  go_loopg [] 3 (fun k wr => ∃ (d' : Dec), Aside0 (DecAt wr g d') ∧ Aside0 (Turned B g w wr) ∧ Aside0 (MidD d') ∧ Aside0 (normD k d' = normD 3 d1) ∧ Aside0 (16777216 ≤ d'.width * 256 ^ k) ∧ Aside0 (d'.s = d.s))
  case atStart => exact ⟨d1, HD3, HT3, HMID, ⟨rfl⟩, ⟨by have := HMID.out.wid0; omega⟩, HSD⟩
  case round =>
    obtain ⟨d', HD', HT', HM', HN', HW', HS'⟩ := hrel
    have c0 : wr.cell? ⟨g, 0, none⟩ = some (.string d'.s) := HD'.out.cell 0
    have c1 : wr.cell? ⟨g, 1, none⟩ = some (.int .i64 d'.pos) := HD'.out.cell 1
    have c2 : wr.cell? ⟨g, 2, none⟩ = some (.int .u32 d'.code) := HD'.out.cell 2
    have c3 : wr.cell? ⟨g, 3, none⟩ = some (.int .u32 d'.width) := HD'.out.cell 3
    have c4 : wr.cell? ⟨g, 4, none⟩ = some (.bool d'.bad) := HD'.out.cell 4
    have f1 : wr.frozen? ⟨g, 1, none⟩ = false := blk_frozen HD'.out 1
    have f2 : wr.frozen? ⟨g, 2, none⟩ = false := blk_frozen HD'.out 2
    have f3 : wr.frozen? ⟨g, 3, none⟩ = false := blk_frozen HD'.out 3
    have f4 : wr.frozen? ⟨g, 4, none⟩ = false := blk_frozen HD'.out 4
    have v0 := HM'.out.wid0
    have v1 := HM'.out.wid1
    have v2 := HM'.out.code0
    have v3 := HM'.out.code1
    have v4 := HM'.out.pos0
    have v5 := HM'.out.pos1
    have v6 : d'.s.size ≤ 9223372036854775807 := by rw [HS'.out]; exact hsz
    by_cases hlt : d'.width / 16777216 = 0
    · obtain ⟨k, rfl⟩ : ∃ k, gk = k + 1 := by
        rcases gk with _ | k
        · have := HW'.out
          simp at this
          omega
        · exact ⟨k, rfl⟩
      by_cases hend : d'.pos = (d'.s.size : Int)
      · have hNe : normD 3 d1 = (2, { d' with bad := true }) := by rw [← HN'.out, normD, if_pos hlt, if_pos hend]
        have HNE := Aside0.mk hNe
        have hbe : (d'.pos == (d'.s.size : Int)) = true := by simp [hend]
        clear hNe hend
        go_wp2
        go_quiet (fail)
        go_wp2
        go_ret
        rw [HPE.out, HNE.out]
        refine ⟨rfl, (HD'.out.below (by repeat (first | exact Below.refl _ _ | apply pw_below_drewN))).set 4 _ rfl, ?_⟩
        exact (HT'.out.drawn (by repeat (first | exact Drawn0.refl _ | apply Drawn0.step))).set hB 4 _
      · have hbe : (d'.pos == (d'.s.size : Int)) = false := by simp [hend]
        have HEND := Aside0.mk hend
        obtain ⟨j, hj⟩ : ∃ j : Nat, d'.pos = (j : Int) := ⟨d'.pos.toNat, by omega⟩
        have hjl : j < d'.s.size := by omega
        have hbt := bt_at d'.s j hjl
        have hbl := bt_lt d'.s (j : Nat)
        have hNe : normD k (byteD d') = normD 3 d1 := by rw [← HN'.out, normD, if_pos hlt, if_neg hend]
        have HNE := Aside0.mk hNe
        have HBM := Aside0.mk (byteD_mid d' HM'.out hlt hend)
        have HWW : Aside0 (16777216 ≤ (byteD d').width * 256 ^ k) := ⟨by
          have := HW'.out
          show 16777216 ≤ d'.width * 256 * 256 ^ k
          rw [Int.mul_assoc, Int.mul_comm 256, ← Int.pow_succ]
          exact this⟩
        have HJ := Aside0.mk hj
        have i1 : (j : Int) < (d'.s.size : Int) := by omega
        rw [hj] at c1 hbe v4 v5
        have hor := or_low (d'.code % 16777216) (bt d'.s (j : Nat)) (by omega) (by omega) hbl.1 hbl.2
        have hcw : d'.code * 256 % 4294967296 = d'.code % 16777216 * 256 := by omega
        have hcw2 : IntKind.u32.wrap (d'.code * 256) = d'.code % 16777216 * 256 := by rw [u32_wrap]; omega
        obtain ⟨y, hy⟩ : ∃ y, bt d'.s (j : Nat) = y := ⟨_, rfl⟩
        rw [hy] at hor hbt hbl
        obtain ⟨y0, y1⟩ := hbl
        have HY := Aside0.mk hy
        clear hNe hend hj hy
        go_wp2
        go_quiet (fail)
        go_wp2
        have HD4 := Aside0.mk ((HD'.out.below (pw_below_drewN (Below.refl _ _) nq)).set (d' := { d' with width := d'.width * 256 }) 3 (.int .u32 (d'.width * 256)) rfl)
        have HT4 := Aside0.mk ((HT'.out.drewN nq).set hB 3 (.int .u32 (d'.width * 256)))
        generalize (wr.drewN nq).setCell ⟨g, 3, none⟩ (.int .u32 (d'.width * 256)) = wq at HD4 HT4 ⊢
        clear c0 c1 c2 c3 c4 f1 f2 f3 f4
        have c0 : wq.cell? ⟨g, 0, none⟩ = some (.string d'.s) := HD4.out.cell 0
        have c1 : wq.cell? ⟨g, 1, none⟩ = some (.int .i64 (j : Int)) := by rw [← HJ.out]; exact HD4.out.cell 1
        have c2 : wq.cell? ⟨g, 2, none⟩ = some (.int .u32 d'.code) := HD4.out.cell 2
        have f1 : wq.frozen? ⟨g, 1, none⟩ = false := blk_frozen HD4.out 1
        have f2 : wq.frozen? ⟨g, 2, none⟩ = false := blk_frozen HD4.out 2
        go_still_tail 19, (by kernel_rfl)
        have HD5 : Aside0 (DecAt wq.drew g { d' with width := d'.width * 256 }) := ⟨HD4.out.below (below_drew (Below.refl _ _))⟩
        have HT5 : Aside0 (Turned B g w wq.drew) := ⟨HT4.out.drewN 1⟩
        have e1 : wq.drew.cell? ⟨g, 1, none⟩ = some (.int .i64 (j : Int)) := c1
        have e2 : wq.drew.cell? ⟨g, 2, none⟩ = some (.int .u32 d'.code) := c2
        have g1 : wq.drew.frozen? ⟨g, 1, none⟩ = false := f1
        have g2 : wq.drew.frozen? ⟨g, 2, none⟩ = false := f2
        clear c0 c1 c2 f1 f2 HD4 HT4
        change wpList _ _ _ _ _ wq.drew
        generalize wq.drew = wu at HD5 HT5 e1 e2 g1 g2 ⊢
        go_wp2
        go_roundg k
        case measure => omega
        case rel =>
          refine ⟨byteD d', ⟨(HD5.out.set (d' := { d' with width := d'.width * 256, code := d'.code % 16777216 * 256 + y }) 2 _ ?_).set 1 _ ?_⟩, ⟨(HT5.out.set hB 2 _).set hB 1 _⟩, HBM, HNE, HWW, HS'⟩
          · first | rfl | (simp [decCells]; done)
          · simp [decCells, byteD, HJ.out, HY.out]
    · have HN2 := Aside0.mk (normD_stop gk d' hlt)
      go_wp2
      go_ret
      rw [HPE.out, ← HN'.out, HN2.out]
      exact ⟨rfl, HD'.out, HT'.out⟩
end Go.Proofs.Ytoologbaoifheaa.Hand
