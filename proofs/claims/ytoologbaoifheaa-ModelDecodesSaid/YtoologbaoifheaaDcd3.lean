/- Texts of this claim's proof, laid behind each other: Contracts of layer 18, proved by hand: a decoder's Take, where a part may be; Contracts of layer 18, proved by hand: a decoder's Take goes through; Contracts of layer 18, proved by hand: a decoder's Take and Bits; Contracts of layer 18, proved by hand: the reference's encoder; Contracts of layer 18, proved by hand: the reference's Put, Bits, New, Finish; The plain law of layer 18: an encoder's numbers as one great number; The plain law of layer 18: what an encoder gives is read back; The plain law of layer 18: a row of parts, put and taken; Contracts of layer 18, proved by hand: the reference's Finish; Contracts of layer 19, proved by hand: counts -/
import Derived.Test.YtoologbaoifheaaDcd2
/- Contracts of layer 18, proved by hand: a decoder's Take, where a part may be. -/
namespace Go.Proofs.Ytoologbaoifheaa.Hand
open Go.RowKit Go.Proofs.Ytoologbaoifheaa.Q Go.Proofs.YtoologbaoifheaaW.PrintWords Go.Proofs.YtoologbaoifheaaW.PrintLast Go.Proofs.YtoologbaoifheaaW.PrintMore
set_option linter.unusedVariables false
set_option linter.unusedSimpArgs false

theorem peek_fine (d : Dec) (f n t : Int) (hb : d.bad = false) (hm : mayP f n t) : (peekD d t).2 = 0 ∧ ((peekD d t).1 = d.code / (d.width / t) ∨ (peekD d t).1 = t - 1) := by
  obtain ⟨m1, m2, m3, m4, m5, m6⟩ := hm
  unfold peekD
  rw [if_neg (by omega), if_neg (by rw [hb]; decide)]
  refine ⟨rfl, ?_⟩
  show (if d.code / (d.width / t) ≤ t - 1 then d.code / (d.width / t) else t - 1) = _ ∨ (if d.code / (d.width / t) ≤ t - 1 then d.code / (d.width / t) else t - 1) = _
  split
  · exact .inl rfl
  · exact .inr rfl
set_option maxHeartbeats 4000000 in
set_option maxRecDepth 100000 in
theorem Take_bad (d : Dec) (f n t : Int) (hm : mayP f n t) (hg : GoodD d) (hb : d.bad = true) (B g : Nat) (hB : B ≤ g) (w : World) (h : DecAt w g d) :
    Calls Try.prog 50 #[.pointer (some ⟨g, 0, none⟩), .int .i64 f, .int .i64 n, .int .i64 t] w fun e w' => e = .returned (.int .i64 2) ∧ DecAt w' g d ∧ Turned B g w w' := by
  have hup := Try.underlying67
  have HM := Aside0.mk hm
  have HD := Aside0.mk h
  have hp : peekD d t = (0, 2) := by unfold peekD; rw [if_neg (by obtain ⟨m1, m2, m3⟩ := hm; omega), if_pos hb]
  have HP := Aside0.mk hp
  have HG := Aside0.mk hg
  clear hm h hp hg hb
  go_enter Try.func50, Try.ntmps50
  go_wp2_with fail
  refine (may_yes f n t HM.out _).mono ?_
  rintro e w1 ⟨rfl, ⟨m, rfl⟩⟩
  go_wp2_with fail
  refine (Peek_any d t g _ (HD.out.below (pw_below_drewN (Below.refl _ _) m)) HG.out).mono ?_
  rintro e w2 ⟨rfl, ⟨m2, rfl⟩⟩
  rw [HP.out]
  go_wp2
  go_ret
  exact ⟨rfl, HD.out.below (pw_below_drewN (Below.refl _ _) (m + m2)), (Turned.refl B g w).drewN (m + m2)⟩
set_option maxHeartbeats 4000000 in
set_option maxRecDepth 100000 in
theorem Take_else (d : Dec) (f n t : Int) (hm : mayP f n t) (hg : GoodD d) (hb : d.bad = false) (h1 : (peekD d t).1 < f ∨ n ≤ (peekD d t).1 - f) (B g : Nat) (hB : B ≤ g) (w : World) (h : DecAt w g d) :
    Calls Try.prog 50 #[.pointer (some ⟨g, 0, none⟩), .int .i64 f, .int .i64 n, .int .i64 t] w fun e w' => e = .returned (.int .i64 2) ∧ DecAt w' g d ∧ Turned B g w w' := by
  have hup := Try.underlying67
  have HM := Aside0.mk hm
  have HD := Aside0.mk h
  have hp := (peek_fine d f n t hb hm).1
  have HG := Aside0.mk hg
  have hk := Peek_any d t g
  rw [hp] at hk
  obtain ⟨x, hx⟩ : ∃ x, (peekD d t).1 = x := ⟨_, rfl⟩
  rw [hx] at hk h1
  have hx0 : 0 ≤ x ∧ x < 65536 := by
    have hc := (peek_fine d f n t hb hm).2
    obtain ⟨m1, m2, m3, m4, m5, m6⟩ := hm
    have k0 := hg.code0
    have hw := hg.wid0 hb
    have hq : 0 ≤ d.code / (d.width / t) := Int.ediv_nonneg k0 (Int.ediv_nonneg (by omega) (by omega))
    have hx1 : (peekD d t).1 ≤ t - 1 := by
      unfold peekD
      rw [if_neg (by omega), if_neg (by rw [hb]; decide)]
      show (if d.code / (d.width / t) ≤ t - 1 then d.code / (d.width / t) else t - 1) ≤ _
      split <;> omega
    omega
  have HK := Aside0.mk hk
  obtain ⟨x0, x1⟩ := hx0
  obtain ⟨m1, m2, m3, m4, m5, m6⟩ := hm
  clear h hp hg hb hk hx
  rcases h1 with h1 | h1
  · go_enter Try.func50, Try.ntmps50
    go_wp2_with fail
    refine (may_yes f n t HM.out _).mono ?_
    rintro e w1 ⟨rfl, ⟨m, rfl⟩⟩
    go_wp2_with fail
    refine (HK.out _ (HD.out.below (pw_below_drewN (Below.refl _ _) m)) HG.out).mono ?_
    rintro e w2 ⟨rfl, ⟨m2, rfl⟩⟩
    go_wp2
    go_ret
    exact ⟨rfl, HD.out.below (pw_below_drewN (Below.refl _ _) (m + m2)), (Turned.refl B g w).drewN (m + m2)⟩
  · by_cases h2 : x < f
    · go_enter Try.func50, Try.ntmps50
      go_wp2_with fail
      refine (may_yes f n t HM.out _).mono ?_
      rintro e w1 ⟨rfl, ⟨m, rfl⟩⟩
      go_wp2_with fail
      refine (HK.out _ (HD.out.below (pw_below_drewN (Below.refl _ _) m)) HG.out).mono ?_
      rintro e w2 ⟨rfl, ⟨m2, rfl⟩⟩
      go_wp2
      go_ret
      exact ⟨rfl, HD.out.below (pw_below_drewN (Below.refl _ _) (m + m2)), (Turned.refl B g w).drewN (m + m2)⟩
    · go_enter Try.func50, Try.ntmps50
      go_wp2_with fail
      refine (may_yes f n t HM.out _).mono ?_
      rintro e w1 ⟨rfl, ⟨m, rfl⟩⟩
      go_wp2_with fail
      refine (HK.out _ (HD.out.below (pw_below_drewN (Below.refl _ _) m)) HG.out).mono ?_
      rintro e w2 ⟨rfl, ⟨m2, rfl⟩⟩
      go_wp2
      go_ret
      exact ⟨rfl, HD.out.below (pw_below_drewN (Below.refl _ _) (m + m2)), (Turned.refl B g w).drewN (m + m2)⟩
end Go.Proofs.Ytoologbaoifheaa.Hand
/- Contracts of layer 18, proved by hand: a decoder's Take goes through. -/
namespace Go.Proofs.Ytoologbaoifheaa.Hand
open Go.RowKit Go.Proofs.Ytoologbaoifheaa.Q Go.Proofs.YtoologbaoifheaaW.PrintWords Go.Proofs.YtoologbaoifheaaW.PrintLast Go.Proofs.YtoologbaoifheaaW.PrintMore
set_option linter.unusedVariables false
set_option linter.unusedSimpArgs false
/-- A part is taken. -/
def onD (f n t : Int) (d : Dec) : Int × Dec := normD 3 (partD f n t d)
set_option maxHeartbeats 4000000 in
set_option maxRecDepth 100000 in
theorem Take_on (d : Dec) (f n t : Int) (hm : mayP f n t) (hg : GoodD d) (hb : d.bad = false) (h1 : ¬ ((peekD d t).1 < f ∨ n ≤ (peekD d t).1 - f)) (hsz : d.s.size ≤ 9223372036854775807) (B g : Nat) (hB : B ≤ g) (w : World) (h : DecAt w g d) :
    Calls Try.prog 50 #[.pointer (some ⟨g, 0, none⟩), .int .i64 f, .int .i64 n, .int .i64 t] w fun e w' => e = .returned (.int .i64 (onD f n t d).1) ∧ DecAt w' g (onD f n t d).2 ∧ Turned B g w w' := by
  have hup := Try.underlying67
  have HM := Aside0.mk hm
  have HD := Aside0.mk h
  have hp := (peek_fine d f n t hb hm).1
  have HG := Aside0.mk hg
  have HMID := Aside0.mk (partD_mid d f n t hg hb hm h1)
  have hle := peek_le d f n t hg hb hm h1
  have hk := Peek_any d t g
  rw [hp] at hk
  obtain ⟨x, hx⟩ : ∃ x, (peekD d t).1 = x := ⟨_, rfl⟩
  rw [hx] at hk h1
  have HK := Aside0.mk hk
  have hn1 : ¬ x < f := fun h => h1 (.inl h)
  have hn2 : ¬ n ≤ x - f := fun h => h1 (.inr h)
  obtain ⟨m1, m2, m3, m4, m5, m6⟩ := hm
  have hw := hg.wid0 hb
  have ww0 := hg.wid1
  have k0 := hg.code0
  have k1 := hg.code1
  have x1 : x < 65536 := by omega
  have x0 : 0 ≤ x := by omega
  clear h hp hg hk hx h1
  go_enter Try.func50, Try.ntmps50
  go_wp2_with fail
  refine (may_yes f n t HM.out _).mono ?_
  rintro e w1 ⟨rfl, ⟨m, rfl⟩⟩
  go_wp2_with fail
  refine (HK.out _ (HD.out.below (pw_below_drewN (Below.refl _ _) m)) HG.out).mono ?_
  rintro e w2 ⟨rfl, ⟨q, rfl⟩⟩
  have HD2 : Aside0 (DecAt ((w.drewN m).drewN q) g d) := ⟨(HD.out.below (pw_below_drewN (Below.refl _ _) m)).below (pw_below_drewN (Below.refl _ _) q)⟩
  have HT2 : Aside0 (Turned B g w ((w.drewN m).drewN q)) := ⟨((Turned.refl B g w).drewN m).drewN q⟩
  generalize (w.drewN m).drewN q = wy at HD2 HT2 ⊢
  have c2 : wy.cell? ⟨g, 2, none⟩ = some (.int .u32 d.code) := HD2.out.cell 2
  have c3 : wy.cell? ⟨g, 3, none⟩ = some (.int .u32 d.width) := HD2.out.cell 3
  have f2 : wy.frozen? ⟨g, 2, none⟩ = false := blk_frozen HD2.out 2
  have f3 : wy.frozen? ⟨g, 3, none⟩ = false := blk_frozen HD2.out 3
  have r0 : 1 ≤ d.width / t := by
    have := Int.ediv_le_ediv (show (0 : Int) < t by omega) (show t ≤ d.width by omega)
    rwa [Int.ediv_self (by omega)] at this
  have r1 : d.width / t * t ≤ d.width := Int.ediv_mul_le _ (by omega)
  have r2 : d.width / t * f + d.width / t * n ≤ d.width / t * t := by
    rw [← Int.mul_add]
    exact Int.mul_le_mul_of_nonneg_left (by omega) (by omega)
  have p0 : 0 ≤ d.width / t * f := Int.mul_nonneg (by omega) m3
  have q0 : 0 ≤ d.width / t * n := Int.mul_nonneg (by omega) (by omega)
  have p1 : d.width / t * f < 4294967296 := by omega
  have q1 : d.width / t * n < 4294967296 := by omega
  have r3 : d.width / t < 4294967296 := by
    have := Int.ediv_le_self (a := d.width) t (by omega)
    omega
  clear r1 r2
  go_wp2
  have HD3 := Aside0.mk ((HD2.out.set (d' := { d with code := d.code - d.width / t * f }) 2 (.int .u32 (d.code - d.width / t * f)) rfl).set (d' := partD f n t d) 3 (.int .u32 (d.width / t * n)) rfl)
  have HT3 := Aside0.mk ((HT2.out.set hB 2 (.int .u32 (d.code - d.width / t * f))).set hB 3 (.int .u32 (d.width / t * n)))
  generalize (wy.setCell ⟨g, 2, none⟩ (.int .u32 (d.code - d.width / t * f))).setCell ⟨g, 3, none⟩ (.int .u32 (d.width / t * n)) = wz at HD3 HT3 ⊢
  have hsd : (partD f n t d).s = d.s := rfl
  have hpe : onD f n t d = normD 3 (partD f n t d) := rfl
  generalize partD f n t d = d1 at HMID HD3 hsd hpe
  have HPE := Aside0.mk hpe
  clear hpe
  have HSD := Aside0.mk hsd
  clear c2 c3 f2 f3 r0 p0 q0 p1 q1 r3 hsd hle hw ww0 k0 k1 x0 x1 hn1 hn2 HK HG HM HD HD2
  go_loopg [] 3 (fun k wr => ∃ (d' : Dec), Aside0 (DecAt wr g d') ∧ Aside0 (Turned B g w wr) ∧ Aside0 (MidD d') ∧ Aside0 (normD k d' = normD 3 d1) ∧ Aside0 (16777216 ≤ d'.width * 256 ^ k) ∧ Aside0 (d'.s = d.s))
  case atStart => exact ⟨d1, HD3, HT3, HMID, ⟨rfl⟩, ⟨by have := HMID.out.wid0; omega⟩, HSD⟩
  case round =>
    obtain ⟨d', HD', HT', HM', HN', HW', HS'⟩ := hrel
    have c0 : wr.cell? ⟨g, 0, none⟩ = some (.string d'.s) := HD'.out.cell 0
    have c1 : wr.cell? ⟨g, 1, none⟩ = some (.int .i64 d'.pos) := HD'.out.cell 1
    have c2 : wr.cell? ⟨g, 2, none⟩ = some (.int .u32 d'.code) := HD'.out.cell 2
    have c3 : wr.cell? ⟨g, 3, none⟩ = some (.int .u32 d'.width) := HD'.out.cell 3
    have c4 : wr.cell? ⟨g, 4, none⟩ = some (.bool d'.bad) := HD'.out.cell 4
    have f1 : wr.frozen? ⟨g, 1, none⟩ = false := blk_frozen HD'.out 1
    have f2 : wr.frozen? ⟨g, 2, none⟩ = false := blk_frozen HD'.out 2
    have f3 : wr.frozen? ⟨g, 3, none⟩ = false := blk_frozen HD'.out 3
    have f4 : wr.frozen? ⟨g, 4, none⟩ = false := blk_frozen HD'.out 4
    have v0 := HM'.out.wid0
    have v1 := HM'.out.wid1
    have v2 := HM'.out.code0
    have v3 := HM'.out.code1
    have v4 := HM'.out.pos0
    have v5 := HM'.out.pos1
    have v6 : d'.s.size ≤ 9223372036854775807 := by rw [HS'.out]; exact hsz
    by_cases hlt : d'.width / 16777216 = 0
    · obtain ⟨k, rfl⟩ : ∃ k, gk = k + 1 := by
        rcases gk with _ | k
        · have := HW'.out
          simp at this
          omega
        · exact ⟨k, rfl⟩
      by_cases hend : d'.pos = (d'.s.size : Int)
      · have hNe : normD 3 d1 = (2, { d' with bad := true }) := by rw [← HN'.out, normD, if_pos hlt, if_pos hend]
        have HNE := Aside0.mk hNe
        have hbe : (d'.pos == (d'.s.size : Int)) = true := by simp [hend]
        clear hNe hend
        go_wp2
        go_quiet (fail)
        go_wp2
        go_ret
        rw [HPE.out, HNE.out]
        refine ⟨rfl, (HD'.out.below (by repeat (first | exact Below.refl _ _ | apply pw_below_drewN))).set 4 _ rfl, ?_⟩
        exact (HT'.out.drawn (by repeat (first | exact Drawn0.refl _ | apply Drawn0.step))).set hB 4 _
      · have hbe : (d'.pos == (d'.s.size : Int)) = false := by simp [hend]
        have HEND := Aside0.mk hend
        obtain ⟨j, hj⟩ : ∃ j : Nat, d'.pos = (j : Int) := ⟨d'.pos.toNat, by omega⟩
        have hjl : j < d'.s.size := by omega
        have hbt := bt_at d'.s j hjl
        have hbl := bt_lt d'.s (j : Nat)
        have hNe : normD k (byteD d') = normD 3 d1 := by rw [← HN'.out, normD, if_pos hlt, if_neg hend]
        have HNE := Aside0.mk hNe
        have HBM := Aside0.mk (byteD_mid d' HM'.out hlt hend)
        have HWW : Aside0 (16777216 ≤ (byteD d').width * 256 ^ k) := ⟨by
          have := HW'.out
          show 16777216 ≤ d'.width * 256 * 256 ^ k
          rw [Int.mul_assoc, Int.mul_comm 256, ← Int.pow_succ]
          exact this⟩
        have HJ := Aside0.mk hj
        have i1 : (j : Int) < (d'.s.size : Int) := by omega
        rw [hj] at c1 hbe v4 v5
        have hor := or_low (d'.code % 16777216) (bt d'.s (j : Nat)) (by omega) (by omega) hbl.1 hbl.2
        have hcw : d'.code * 256 % 4294967296 = d'.code % 16777216 * 256 := by omega
        have hcw2 : IntKind.u32.wrap (d'.code * 256) = d'.code % 16777216 * 256 := by rw [u32_wrap]; omega
        obtain ⟨y, hy⟩ : ∃ y, bt d'.s (j : Nat) = y := ⟨_, rfl⟩
        rw [hy] at hor hbt hbl
        obtain ⟨y0, y1⟩ := hbl
        have HY := Aside0.mk hy
        clear hNe hend hj hy
        go_wp2
        go_quiet (fail)
        go_wp2
        have HD4 := Aside0.mk ((HD'.out.below (pw_below_drewN (Below.refl _ _) nq)).set (d' := { d' with width := d'.width * 256 }) 3 (.int .u32 (d'.width * 256)) rfl)
        have HT4 := Aside0.mk ((HT'.out.drewN nq).set hB 3 (.int .u32 (d'.width * 256)))
        generalize (wr.drewN nq).setCell ⟨g, 3, none⟩ (.int .u32 (d'.width * 256)) = wq at HD4 HT4 ⊢
        clear c0 c1 c2 c3 c4 f1 f2 f3 f4
        have c0 : wq.cell? ⟨g, 0, none⟩ = some (.string d'.s) := HD4.out.cell 0
        have c1 : wq.cell? ⟨g, 1, none⟩ = some (.int .i64 (j : Int)) := by rw [← HJ.out]; exact HD4.out.cell 1
        have c2 : wq.cell? ⟨g, 2, none⟩ = some (.int .u32 d'.code) := HD4.out.cell 2
        have f1 : wq.frozen? ⟨g, 1, none⟩ = false := blk_frozen HD4.out 1
        have f2 : wq.frozen? ⟨g, 2, none⟩ = false := blk_frozen HD4.out 2
        go_still_tail 19, (by kernel_rfl)
        have HD5 : Aside0 (DecAt wq.drew g { d' with width := d'.width * 256 }) := ⟨HD4.out.below (below_drew (Below.refl _ _))⟩
        have HT5 : Aside0 (Turned B g w wq.drew) := ⟨HT4.out.drewN 1⟩
        have e1 : wq.drew.cell? ⟨g, 1, none⟩ = some (.int .i64 (j : Int)) := c1
        have e2 : wq.drew.cell? ⟨g, 2, none⟩ = some (.int .u32 d'.code) := c2
        have g1 : wq.drew.frozen? ⟨g, 1, none⟩ = false := f1
        have g2 : wq.drew.frozen? ⟨g, 2, none⟩ = false := f2
        clear c0 c1 c2 f1 f2 HD4 HT4
        change wpList _ _ _ _ _ wq.drew
        generalize wq.drew = wu at HD5 HT5 e1 e2 g1 g2 ⊢
        go_wp2
        go_roundg k
        case measure => omega
        case rel =>
          refine ⟨byteD d', ⟨(HD5.out.set (d' := { d' with width := d'.width * 256, code := d'.code % 16777216 * 256 + y }) 2 _ ?_).set 1 _ ?_⟩, ⟨(HT5.out.set hB 2 _).set hB 1 _⟩, HBM, HNE, HWW, HS'⟩
          · first | rfl | (simp [decCells]; done)
          · simp [decCells, byteD, HJ.out, HY.out]
    · have HN2 := Aside0.mk (normD_stop gk d' hlt)
      go_wp2
      go_ret
      rw [HPE.out, ← HN'.out, HN2.out]
      exact ⟨rfl, HD'.out, HT'.out⟩
end Go.Proofs.Ytoologbaoifheaa.Hand
/- Contracts of layer 18, proved by hand: a decoder's Take and Bits. -/
namespace Go.Proofs.Ytoologbaoifheaa.Hand
open Go.RowKit Go.Proofs.Ytoologbaoifheaa.Q Go.Proofs.YtoologbaoifheaaW.PrintWords Go.Proofs.YtoologbaoifheaaW.PrintLast Go.Proofs.YtoologbaoifheaaW.PrintMore
set_option linter.unusedVariables false
set_option linter.unusedSimpArgs false

theorem Take_any (d : Dec) (f n t : Int) (hg : GoodD d) (hsz : d.s.size ≤ 9223372036854775807) (B g : Nat) (hB : B ≤ g) (w : World) (h : DecAt w g d) :
    Calls Try.prog 50 #[.pointer (some ⟨g, 0, none⟩), .int .i64 f, .int .i64 n, .int .i64 t] w fun e w' => e = .returned (.int .i64 (takeD f n t d).1) ∧ DecAt w' g (takeD f n t d).2 ∧ Turned B g w w' := by
  by_cases hm : mayP f n t
  · cases hb : d.bad with
    | true =>
      have e : takeD f n t d = (2, d) := by unfold takeD; rw [if_pos hm, if_pos hb]
      rw [e]
      exact Take_bad d f n t hm hg hb B g hB w h
    | false =>
      by_cases h1 : (peekD d t).1 < f ∨ n ≤ (peekD d t).1 - f
      · have e : takeD f n t d = (2, d) := by unfold takeD; rw [if_pos hm, if_neg (by rw [hb]; decide), if_pos h1]
        rw [e]
        exact Take_else d f n t hm hg hb h1 B g hB w h
      · have e : takeD f n t d = onD f n t d := by unfold takeD; rw [if_pos hm, if_neg (by rw [hb]; decide), if_neg h1]; rfl
        rw [e]
        exact Take_on d f n t hm hg hb h1 hsz B g hB w h
  · have e : takeD f n t d = (1, d) := by unfold takeD; rw [if_neg hm]
    rw [e]
    exact Take_no d f n t hm B g hB w h
/-- A number of so many bits, taken. -/
def bitsD (k : Int) (d : Dec) : Int × Int × Dec :=
  if k < 1 ∨ 16 < k then (0, 1, d) else if d.bad = true then (0, 2, d) else
    if (takeD (peekD d (2 ^ k.toNat)).1 1 (2 ^ k.toNat) d).1 = 0 then ((peekD d (2 ^ k.toNat)).1, 0, (takeD (peekD d (2 ^ k.toNat)).1 1 (2 ^ k.toNat) d).2) else (0, (takeD (peekD d (2 ^ k.toNat)).1 1 (2 ^ k.toNat) d).1, (takeD (peekD d (2 ^ k.toNat)).1 1 (2 ^ k.toNat) d).2)
theorem bitsD_good (k : Int) (d : Dec) (h : GoodD d) : GoodD (bitsD k d).2.2 := by
  unfold bitsD
  split
  · exact h
  · split
    · exact h
    · split
      · exact takeD_good d _ _ _ h
      · exact takeD_good d _ _ _ h
set_option maxHeartbeats 4000000 in
set_option maxRecDepth 100000 in
theorem BitsD_nil (k : Int) (w : World) : Calls Try.prog 51 #[.pointer none, .int .i64 k] w fun e w' => e = .returned (.tuple #[.int .i64 0, .int .i64 1]) ∧ Drawn0 w w' := by
  have hup := Try.underlying67
  go_enter Try.func51, Try.ntmps51
  go_wp2
  go_ret2
  exact ⟨rfl, Drawn0.refl _⟩
set_option maxHeartbeats 4000000 in
set_option maxRecDepth 100000 in
theorem BitsD_any (d : Dec) (k : Int) (hg : GoodD d) (hsz : d.s.size ≤ 9223372036854775807) (B g : Nat) (hB : B ≤ g) (w : World) (h : DecAt w g d) :
    Calls Try.prog 51 #[.pointer (some ⟨g, 0, none⟩), .int .i64 k] w fun e w' => e = .returned (.tuple #[.int .i64 (bitsD k d).1, .int .i64 (bitsD k d).2.1]) ∧ DecAt w' g (bitsD k d).2.2 ∧ Turned B g w w' := by
  have hup := Try.underlying67
  have HD := Aside0.mk h
  have HG := Aside0.mk hg
  clear h hg
  by_cases hk : k < 1 ∨ 16 < k
  · have HE : Aside0 (bitsD k d = (0, 1, d)) := ⟨if_pos hk⟩
    rcases hk with hk | hk
    · go_enter Try.func51, Try.ntmps51
      go_wp2
      go_ret2
      rw [HE.out]
      exact ⟨rfl, HD.out, Turned.refl _ _ _⟩
    · have hk1 : ¬ k < 1 := by omega
      go_enter Try.func51, Try.ntmps51
      go_wp2
      go_ret2
      rw [HE.out]
      exact ⟨rfl, HD.out, Turned.refl _ _ _⟩
  · have k1 : 1 ≤ k := by omega
    have k2 : k ≤ 16 := by omega
    have hle : (2 : Int) ^ k.toNat ≤ 65536 := by
      have h1 : (2 : Int) ^ k.toNat = ((2 ^ k.toNat : Nat) : Int) := by simp
      have h2 : 2 ^ k.toNat ≤ 2 ^ 16 := Nat.pow_le_pow_right (by decide) (by omega)
      rw [h1]
      omega
    have hpos : (0 : Int) < 2 ^ k.toNat := Int.pow_pos (by decide)
    have hwp : wrap64 (2 ^ k.toNat) = 2 ^ k.toNat := wrap_id _ (by omega) (by omega)
    obtain ⟨t, ht⟩ : ∃ t : Int, 2 ^ k.toNat = t := ⟨_, rfl⟩
    rw [ht] at hle hpos
    have hwp2 : wrap64 (2 ^ k.toNat) = t := by rw [hwp, ht]
    have hE : bitsD k d = if d.bad = true then (0, 2, d) else if (takeD (peekD d t).1 1 t d).1 = 0 then ((peekD d t).1, 0, (takeD (peekD d t).1 1 t d).2) else (0, (takeD (peekD d t).1 1 t d).1, (takeD (peekD d t).1 1 t d).2) := by
      unfold bitsD
      rw [if_neg hk, ht]
    cases hb : d.bad with
    | true =>
      rw [if_pos hb] at hE
      have HE := Aside0.mk hE
      have hp : peekD d t = (0, 2) := by unfold peekD; rw [if_neg (by omega), if_pos hb]
      have hpk := Peek_any d t g w HD.out HG.out
      rw [hp] at hpk
      have HP := Aside0.mk hpk
      clear hE hp hpk ht hwp hb hk
      go_enter Try.func51, Try.ntmps51
      go_wp2_with fail
      refine HP.out.mono ?_
      rintro e w1 ⟨rfl, ⟨m, rfl⟩⟩
      go_wp2
      go_ret2
      rw [HE.out]
      exact ⟨rfl, HD.out.below (pw_below_drewN (Below.refl _ _) m), (Turned.refl B g w).drewN m⟩
    | false =>
      rw [if_neg (by rw [hb]; decide)] at hE
      have hp : (peekD d t).2 = 0 := by unfold peekD; rw [if_neg (by omega), if_neg (by rw [hb]; decide)]
      have hpk := Peek_any d t g w HD.out HG.out
      rw [hp] at hpk
      have htk := fun W (hW : DecAt W g d) => Take_any d (peekD d t).1 1 t HG.out hsz B g hB W hW
      obtain ⟨x, hx⟩ : ∃ x, (peekD d t).1 = x := ⟨_, rfl⟩
      rw [hx] at hE hpk htk
      obtain ⟨p, hpp⟩ : ∃ p, takeD x 1 t d = p := ⟨_, rfl⟩
      rw [hpp] at hE htk
      obtain ⟨e2, d2⟩ := p
      have HP := Aside0.mk hpk
      have HT := Aside0.mk htk
      clear hp hpk htk ht hwp hb hk hx hpp
      by_cases h0 : e2 = 0
      · have HE : Aside0 (bitsD k d = (x, 0, d2)) := ⟨by rw [hE]; exact if_pos h0⟩
        subst h0
        clear hE
        go_enter Try.func51, Try.ntmps51
        go_wp2_with fail
        refine HP.out.mono ?_
        rintro e w1 ⟨rfl, ⟨m, rfl⟩⟩
        have HD1 := Aside0.mk (HD.out.below (pw_below_drewN (Below.refl _ _) m))
        have HT1 := Aside0.mk ((Turned.refl B g w).drewN m)
        generalize w.drewN m = w1 at HD1 HT1 ⊢
        go_wp2_with fail
        refine (HT.out _ HD1.out).mono ?_
        rintro e w2 ⟨rfl, hd2, ht2⟩
        have HD2 := Aside0.mk hd2
        have HT2 := Aside0.mk (HT1.out.trans ht2)
        clear hd2 ht2
        go_wp2
        go_ret2
        rw [HE.out]
        exact ⟨rfl, HD2.out, HT2.out⟩
      · have HE : Aside0 (bitsD k d = (0, e2, d2)) := ⟨by rw [hE]; exact if_neg h0⟩
        have hbe : (e2 == 0) = false := by simp [h0]
        have hbn : (e2 != 0) = true := by simp [h0]
        clear hE
        go_enter Try.func51, Try.ntmps51
        go_wp2_with fail
        refine HP.out.mono ?_
        rintro e w1 ⟨rfl, ⟨m, rfl⟩⟩
        have HD1 := Aside0.mk (HD.out.below (pw_below_drewN (Below.refl _ _) m))
        have HT1 := Aside0.mk ((Turned.refl B g w).drewN m)
        generalize w.drewN m = w1 at HD1 HT1 ⊢
        go_wp2_with fail
        refine (HT.out _ HD1.out).mono ?_
        rintro e w2 ⟨rfl, hd2, ht2⟩
        have HD2 := Aside0.mk hd2
        have HT2 := Aside0.mk (HT1.out.trans ht2)
        clear hd2 ht2
        go_wp2
        go_ret2
        rw [HE.out]
        exact ⟨rfl, HD2.out, HT2.out⟩
end Go.Proofs.Ytoologbaoifheaa.Hand
/- Contracts of layer 18, proved by hand: the reference's encoder. -/
namespace Go.Proofs.Ytoologbaoifheaa.Hand
open Go.RowKit Go.Proofs.Ytoologbaoifheaa.Q Go.Proofs.YtoologbaoifheaaW.PrintWords Go.Proofs.YtoologbaoifheaaW.PrintLast Go.Proofs.YtoologbaoifheaaW.PrintMore
set_option linter.unusedVariables false
set_option linter.unusedSimpArgs false

def refCells (s : Enc) (v : Value) : Array Value := #[.int .i64 s.low, .int .i64 s.width, .int .i64 s.held, .int .i64 s.count, v]
/-- The reference's encoder in block g. -/
def RefAt (w : World) (B g : Nat) (v : Value) (s : Enc) : Prop := w.heap[g]? = some (.cells (refCells s v) 87 (0, 0)) ∧ BytesAt w B v s.out ∧ B ≤ g
theorem RefAt.below {w w' : World} {B g : Nat} {v : Value} {s : Enc} (h : RefAt w B g v s) (hb : Below w.heap.size w w') : RefAt w' B g v s := ⟨blk_below h.1 hb, h.2.1.below hb, h.2.2⟩
theorem RefAt.cell {w : World} {B g : Nat} {v : Value} {s : Enc} (h : RefAt w B g v s) (j : Nat) : w.cell? ⟨g, j, none⟩ = (refCells s v)[j]? := blk_cell h.1 j
theorem RefAt.lt {w : World} {B g : Nat} {v : Value} {s : Enc} (h : RefAt w B g v s) : g < w.heap.size := blk_lt h.1
theorem RefAt.set {w : World} {B g : Nat} {v : Value} {s s' : Enc} (h : RefAt w B g v s) (j : Nat) (u : Value) (hs : (refCells s v).setIfInBounds j u = refCells s' v) (ho : s'.out = s.out) : RefAt (w.setCell ⟨g, j, none⟩ u) B g v s' :=
  ⟨blk_put h.1 j u hs, ho ▸ h.2.1.set h.1 (by decide) j u, h.2.2⟩
theorem RefAt.put {w : World} {B g : Nat} {v v1 : Value} {s : Enc} {xs : List Int} (hb : w.heap[g]? = some (.cells (refCells s v) 87 (0, 0))) (hr : BytesAt w B v1 xs) (hB : B ≤ g) : RefAt (w.setCell ⟨g, 4, none⟩ v1) B g v1 { s with out := xs } :=
  ⟨blk_put hb 4 v1 rfl, hr.set hb (by decide) 4 v1, hB⟩
theorem RefAt.grown {W w1 : World} {B g : Nat} {v : Value} {s : Enc} (h : RefAt W B g v s) (hg : W.grownBy w1 v.ownBlock) : w1.heap[g]? = some (.cells (refCells s v) 87 (0, 0)) := by
  rw [hg.block g h.lt (fun e => ?_)]
  · exact h.1
  · have := Kd.R_ne h.2.1.all h.1 (by decide)
    exact this e
theorem carryOut_rounds (s : Enc) (h : 1 ≤ s.count) : carryOut s = s.out ++ (s.held + s.low / 4294967296) % 256 :: List.replicate (s.count.toNat - 1) ((255 + s.low / 4294967296) % 256) := by
  unfold carryOut
  rw [show (s.count - 1).toNat = s.count.toNat - 1 by omega]
/-- What the reference's loop lays in d rounds, and what it lays next. -/
def laid (s : Enc) : Nat → List Int
  | 0 => s.out
  | d + 1 => s.out ++ (s.held + s.low / 4294967296) % 256 :: List.replicate d ((255 + s.low / 4294967296) % 256)
def nextC (s : Enc) : Nat → Int
  | 0 => s.held
  | _ + 1 => 255
theorem laid_succ (s : Enc) : ∀ d, laid s (d + 1) = laid s d ++ [(nextC s d + s.low / 4294967296) % 256]
  | 0 => by simp [laid, nextC]
  | d + 1 => by simp [laid, nextC, List.replicate_succ']
theorem laid_length (s : Enc) : ∀ d, (laid s d).length = s.out.length + d
  | 0 => rfl
  | d + 1 => by simp [laid]
theorem nextC_in (s : Enc) (h0 : 0 ≤ s.held) (h1 : s.held < 256) (d : Nat) : 0 ≤ nextC s d ∧ nextC s d < 256 := by
  cases d with
  | zero => exact ⟨h0, h1⟩
  | succ d => exact ⟨(by decide : (0 : Int) ≤ 255), (by decide : (255 : Int) < 256)⟩
set_option maxHeartbeats 4000000 in
set_option maxRecDepth 100000 in
theorem rshift_any (s : Enc) (B g : Nat) (v : Value) (w : World) (h : RefAt w B g v s) (h0 : 0 ≤ s.low) (h1 : s.low < 72057594037927936) (a0 : 0 ≤ s.held) (a1 : s.held < 256) (hc0 : 1 ≤ s.count) (hc : s.count ≤ 4611686018427387904) (hl : s.out.length + s.count.toNat < 140737488355328) :
    Calls Try.prog 48 #[.pointer (some ⟨g, 0, none⟩)] w fun e w' => e = .returned (.tuple #[]) ∧ ∃ v', RefAt w' B g v' (shiftE s) ∧ Moved B g w v w' v' := by
  have hup := Try.underlying57
  have H := Aside0.mk h
  have c0 : w.cell? ⟨g, 0, none⟩ = some (.int .i64 s.low) := h.cell 0
  have c2 : w.cell? ⟨g, 2, none⟩ = some (.int .i64 s.held) := h.cell 2
  have c3 : w.cell? ⟨g, 3, none⟩ = some (.int .i64 s.count) := h.cell 3
  have f0 : w.frozen? ⟨g, 0, none⟩ = false := blk_frozen h.1 0
  have f3 : w.frozen? ⟨g, 3, none⟩ = false := blk_frozen h.1 3
  have hand1 := and_mask_i64 24 (by decide) s.low 16777215 h0 (by omega) rfl
  have hand2 := and_mask_i64 8 (by decide) (s.low / 16777216) 255 (by omega) (by omega) rfl
  rw [show (2 : Int) ^ 24 = 16777216 from rfl] at hand1
  rw [show (2 : Int) ^ 8 = 256 from rfl] at hand2
  have hlow : s.low % 16777216 * 256 = s.low * 256 % 4294967296 := by omega
  have HLOW := Aside0.mk hlow
  clear h hlow
  by_cases hf : flushes s
  · have hE : shiftE s = onE (carryE s) := by unfold shiftE; rw [if_pos hf]
    have HE := Aside0.mk hE
    have hd := hf
    unfold flushes at hd
    have HCR := Aside0.mk (carryOut_rounds s hc0)
    clear hE hf
    have hd2 : s.low < 4278190080 ∨ ¬ s.low < 4278190080 ∧ 4294967296 ≤ s.low := by omega
    clear hd
    rcases hd2 with hd | ⟨hd, hd'⟩
    all_goals
      go_enter Try.func48, Try.ntmps48
      go_wp2
      go_loopg [3] s.count.toNat (fun k c wr => ∃ (d : Nat) (v' : Value), d + k = s.count.toNat ∧ c = .int .i64 (nextC s d) ∧ Aside0 (RefAt wr B g v' { s with out := laid s d, count := s.count - d }) ∧ Aside0 (Moved B g w v wr v'))
      case atStart => exact ⟨0, v, by omega, rfl, by simpa [laid] using H, ⟨Moved.refl B g w v⟩⟩
      case round =>
        obtain ⟨d, v', hdk, rfl, HE', HM'⟩ := hrel
        clear c0 c2 c3 f0 f3
        have c0 : wr.cell? ⟨g, 0, none⟩ = some (.int .i64 s.low) := HE'.out.cell 0
        have c2 : wr.cell? ⟨g, 2, none⟩ = some (.int .i64 s.held) := HE'.out.cell 2
        have c3 : wr.cell? ⟨g, 3, none⟩ = some (.int .i64 (s.count - d)) := HE'.out.cell 3
        have c4 : wr.cell? ⟨g, 4, none⟩ = some v' := HE'.out.cell 4
        have f0 : wr.frozen? ⟨g, 0, none⟩ = false := blk_frozen HE'.out.1 0
        have f2 : wr.frozen? ⟨g, 2, none⟩ = false := blk_frozen HE'.out.1 2
        have f3 : wr.frozen? ⟨g, 3, none⟩ = false := blk_frozen HE'.out.1 3
        have f4 : wr.frozen? ⟨g, 4, none⟩ = false := blk_frozen HE'.out.1 4
        by_cases hlt : 0 < s.count - d
        · obtain ⟨xs, hxs⟩ : ∃ xs, laid s d = xs := ⟨_, rfl⟩
          have hxl : xs.length < 140737488355328 := by rw [← hxs, laid_length]; omega
          have HX := Aside0.mk (show laid s (d + 1) = xs ++ [(nextC s d + s.low / 4294967296) % 256] by rw [laid_succ, hxs])
          have HN := Aside0.mk (show (255 : Int) = nextC s (d + 1) from rfl)
          obtain ⟨n0, n1⟩ := nextC_in s a0 a1 d
          rw [hxs] at HE'
          generalize nextC s d = cc at n0 n1 HX ⊢
          clear hxs
          go_wp2_with (at_builtin; (with_reducible refine app_list (w0 := w) (B := B) (v := v') (xs := xs) (.tmp 41) (.tmp 46) _ ?_ ?_ ?_ ?_ ?_ ?_ ?_ ?_ ?_); rfl; rfl; rfl; rfl; exact HE'.out.2.1; exact HM'.out.below; exact Nat.le_trans HE'.out.2.2 (Nat.le_of_lt HE'.out.lt); exact hxl; intro v1 w1 HO1 HB1 HG1 HV1; have hb1 := RefAt.grown HE'.out HG1.out; obtain ⟨A1, k1, e1⟩ := BytesAt.slice HO1.out; subst e1; have c41 : w1.cell? ⟨g, 4, none⟩ = some v' := blk_cell hb1 4; have f41 := blk_frozen hb1 4; have c31 : w1.cell? ⟨g, 3, none⟩ = some (.int .i64 (s.count - d)) := blk_cell hb1 3; have f31 := blk_frozen hb1 3)
          go_roundg (gk - 1)
          case measure => omega
          case rel =>
            refine ⟨d + 1, _, by omega, by rw [HN.out], ⟨(RefAt.put hb1 HO1.out HE'.out.2.2).set 3 _ ?_ ?_⟩, ⟨((Moved.app HM'.out HG1.out HB1.out HV1.out).set HE'.out.2.2 4 _).set HE'.out.2.2 3 _⟩⟩
            · simp [refCells]; omega
            · first
                | exact HX.out
                | (refine HX.out.trans ?_; show _ = xs ++ [cc + s.low / 4294967296]; rw [show (cc + s.low / 4294967296) % 256 = cc + s.low / 4294967296 by omega])
        · obtain rfl : d = s.count.toNat := by omega
          go_wp2
          refine bodyPost_end (results_none rfl _ _ _) rfl ?_
          rw [HE.out]
          refine ⟨rfl, v', ((HE'.out.set (s' := { s with out := laid s s.count.toNat, count := s.count - s.count.toNat, held := s.low / 16777216 % 256 }) 2 _ ?_ rfl).set (s' := { s with out := laid s s.count.toNat, count := 1, held := s.low / 16777216 % 256 }) 3 _ ?_ rfl).set 0 _ ?_ ?_, ((HM'.out.set H.out.2.2 2 _).set H.out.2.2 3 _).set H.out.2.2 0 _⟩
          · simp [refCells, hand2]
          · simp [refCells]; try omega
          · simp [refCells, carryE, onE, hand1, HLOW.out]
          · have e1 := HCR.out
            obtain ⟨d, hd3⟩ : ∃ d, s.count.toNat = d + 1 := ⟨s.count.toNat - 1, by omega⟩
            simp [onE, carryE, e1, hd3, laid]
  · have hE : shiftE s = onE s := by unfold shiftE; rw [if_neg hf]
    have HE := Aside0.mk hE
    have hd := hf
    unfold flushes at hd
    have d1 : ¬ s.low < 4278190080 := fun h => hd (.inl h)
    have d2 : s.low < 4294967296 := by omega
    clear hE hf hd
    go_enter Try.func48, Try.ntmps48
    go_wp2
    refine bodyPost_end (results_none rfl _ _ _) rfl ?_
    rw [HE.out]
    refine ⟨rfl, v, (H.out.set (s' := { s with count := s.count + 1 }) 3 _ ?_ rfl).set 0 _ ?_ rfl, ((Moved.refl B g w v).set H.out.2.2 3 _).set H.out.2.2 0 _⟩
    · simp [refCells]
    · simp [refCells, onE, hand1, HLOW.out]
end Go.Proofs.Ytoologbaoifheaa.Hand
/- Contracts of layer 18, proved by hand: the reference's Put, Bits, New, Finish. -/
namespace Go.Proofs.Ytoologbaoifheaa.Hand
open Go.RowKit Go.Proofs.Ytoologbaoifheaa.Q Go.Proofs.YtoologbaoifheaaW.PrintWords Go.Proofs.YtoologbaoifheaaW.PrintLast Go.Proofs.YtoologbaoifheaaW.PrintMore
set_option linter.unusedVariables false
set_option linter.unusedSimpArgs false

theorem rmay_yes (f s t : Int) (h : mayP f s t) (w : World) : Calls Try.prog 47 #[.int .i64 f, .int .i64 s, .int .i64 t] w fun e w' => e = .returned (.bool true) ∧ Drawn0 w w' := by
  refine lacquerref18_may.calls f s t true w ?_
  obtain ⟨h1, h2, h3, h4, h5, h6⟩ := h
  unfold lacquerref18_may.f
  rw [if_pos h1, if_pos h2, if_pos h3, if_pos h5, if_pos (show s ≤ t by omega), wrap_id _ (by omega) (by omega), decide_eq_true (show f ≤ t - s by omega)]
theorem rmay_no (f s t : Int) (h : ¬ mayP f s t) (w : World) : Calls Try.prog 47 #[.int .i64 f, .int .i64 s, .int .i64 t] w fun e w' => e = .returned (.bool false) ∧ Drawn0 w w' := by
  refine lacquerref18_may.calls f s t false w ?_
  unfold lacquerref18_may.f
  split
  · split
    · split
      · split
        · split
          · rename_i h1 h2 h3 h4 h5
            rw [wrap_id _ (by omega) (by omega)]
            congr 1
            exact decide_eq_false (fun h6 => h ⟨h1, h2, h3, by omega, h4, by omega⟩)
          · rfl
        · rfl
      · rfl
    · rfl
  · rfl
set_option maxHeartbeats 4000000 in
set_option maxRecDepth 100000 in
theorem RPut_no (f n t : Int) (a : Option Addr) (w : World) (h : ¬ mayP f n t) :
    Calls Try.prog 29 #[.pointer a, .int .i64 f, .int .i64 n, .int .i64 t] w fun e w' => e = .returned (.int .i64 1) ∧ Drawn0 w w' := by
  have hup := Try.underlying57
  have HM := Aside0.mk h
  clear h
  go_enter Try.func29, Try.ntmps29
  go_wp2_with fail
  refine (rmay_no f n t HM.out _).mono ?_
  rintro e w1 ⟨rfl, hd⟩
  have HD := Aside0.mk hd
  clear hd
  go_wp2
  go_ret
  exact ⟨rfl, HD.out⟩
set_option maxHeartbeats 4000000 in
set_option maxRecDepth 100000 in
theorem RPut_yes (f n t : Int) (s : Enc) (B g : Nat) (v : Value) (w : World) (h : RefAt w B g v s) (hg : Good s) (hw : 16777216 ≤ s.width) (hm : mayP f n t) (hl : sizeE s + 4 < 140737488355328) :
    Calls Try.prog 29 #[.pointer (some ⟨g, 0, none⟩), .int .i64 f, .int .i64 n, .int .i64 t] w fun e w' => e = .returned (.int .i64 0) ∧ ∃ v', RefAt w' B g v' (putE f n t s) ∧ Moved B g w v w' v' := by
  have hup := Try.underlying57
  have HP := Aside0.mk (partE_good f n t s hg hw hm)
  have HM := Aside0.mk hm
  have H := Aside0.mk h
  have HG := Aside0.mk hg
  have HL := Aside0.mk hl
  obtain ⟨h1, h2, h3, h4, h5, h6⟩ := hm
  clear h hg hl
  go_enter Try.func29, Try.ntmps29
  go_wp2_with fail
  refine (rmay_yes f n t HM.out _).mono ?_
  rintro e w1 ⟨rfl, ⟨m, rfl⟩⟩
  have H1 := Aside0.mk (H.out.below (pw_below_drewN (Below.refl _ _) m))
  have HM1 := Aside0.mk ((Moved.refl B g w v).drewN m)
  generalize w.drewN m = w1 at H1 HM1 ⊢
  have c0 : w1.cell? ⟨g, 0, none⟩ = some (.int .i64 s.low) := H1.out.cell 0
  have c1 : w1.cell? ⟨g, 1, none⟩ = some (.int .i64 s.width) := H1.out.cell 1
  have f0 : w1.frozen? ⟨g, 0, none⟩ = false := blk_frozen H1.out.1 0
  have f1 : w1.frozen? ⟨g, 1, none⟩ = false := blk_frozen H1.out.1 1
  have ww0 := HG.out.wid1
  have l0 := HG.out.low0
  have l1 := HG.out.low1
  have ww2 := HG.out.wid0
  have r0 : 1 ≤ s.width / t := by
    have := Int.ediv_le_ediv (show (0 : Int) < t by omega) (show t ≤ s.width by omega)
    rwa [Int.ediv_self (by omega)] at this
  have r1 : s.width / t * t ≤ s.width := Int.ediv_mul_le _ (by omega)
  have r2 : s.width / t * f + s.width / t * n ≤ s.width / t * t := by
    rw [← Int.mul_add]
    exact Int.mul_le_mul_of_nonneg_left (by omega) (by omega)
  have p0 : 0 ≤ s.width / t * f := Int.mul_nonneg (by omega) h3
  have p1 : s.width / t * f < 4294967296 := by
    have : 0 ≤ s.width / t * n := Int.mul_nonneg (by omega) (by omega)
    omega
  have q0 : 0 ≤ s.width / t * n := Int.mul_nonneg (by omega) (by omega)
  have q1 : s.width / t * n < 4294967296 := by omega
  have r3 : s.width / t < 4294967296 := by
    have := Int.ediv_le_self (a := s.width) t (by omega)
    omega
  clear r1 r2
  go_wp2
  have HE2 := Aside0.mk ((H1.out.set (s' := { s with low := s.low + s.width / t * f }) 0 _ rfl rfl).set (s' := partE f n t s) 1 (.int .i64 (s.width / t * n)) rfl rfl)
  have HM2 := Aside0.mk ((HM1.out.set H1.out.2.2 0 (.int .i64 (s.low + s.width / t * f))).set H1.out.2.2 1 (.int .i64 (s.width / t * n)))
  generalize (w1.setCell ⟨g, 0, none⟩ (.int .i64 (s.low + s.width / t * f))).setCell ⟨g, 1, none⟩ (.int .i64 (s.width / t * n)) = wz at HE2 HM2 ⊢
  have hsz : sizeE (partE f n t s) = sizeE s := rfl
  have hpe : putE f n t s = normE 3 (partE f n t s) := rfl
  generalize partE f n t s = s1 at HP HE2 hsz hpe
  have HPE := Aside0.mk hpe
  clear hpe
  have HSZ := Aside0.mk hsz
  clear c0 c1 f0 f1 ww0 l0 l1 ww2 r0 p0 p1 q0 q1 r3 hsz hw
  go_loopg [] 3 (fun k wr => ∃ (s' : Enc) (v' : Value), Aside0 (RefAt wr B g v' s') ∧ Aside0 (Moved B g w v wr v') ∧ Aside0 (Good s') ∧ Aside0 (normE k s' = normE 3 s1) ∧ Aside0 (16777216 ≤ s'.width * 256 ^ k) ∧ Aside0 (sizeE s' + k ≤ sizeE s + 3))
  case atStart => exact ⟨s1, v, HE2, HM2, HP, ⟨rfl⟩, ⟨by have := HP.out.wid0; omega⟩, ⟨by have := HSZ.out; omega⟩⟩
  case round =>
    obtain ⟨s', v', HE', HM', HG', HN', HW', HS'⟩ := hrel
    have c1 : wr.cell? ⟨g, 1, none⟩ = some (.int .i64 s'.width) := HE'.out.cell 1
    have f1 : wr.frozen? ⟨g, 1, none⟩ = false := blk_frozen HE'.out.1 1
    have w1 := HG'.out.wid1
    have w0 := HG'.out.wid0
    by_cases hlt : s'.width / 16777216 = 0
    · obtain ⟨k, rfl⟩ : ∃ k, gk = k + 1 := by
        rcases gk with _ | k
        · have := HW'.out
          simp at this
          omega
        · exact ⟨k, rfl⟩
      have HE3 := Aside0.mk (HE'.out.set (s' := { s' with width := s'.width * 256 }) 1 (.int .i64 (s'.width * 256)) rfl rfl)
      have HM3 := Aside0.mk (HM'.out.set HE'.out.2.2 1 (.int .i64 (s'.width * 256)))
      have HSH := Aside0.mk (rshift_any { s' with width := s'.width * 256 } B g v' _ HE3.out HG'.out.low0 (by have := HG'.out.low1; have := HG'.out.wid0; show s'.low < _; omega) HG'.out.held0 HG'.out.held1 HG'.out.count (by have := HS'.out; have := HL.out; unfold sizeE at *; show s'.count ≤ _; omega) (by have := HS'.out; have := HL.out; unfold sizeE at *; show s'.out.length + s'.count.toNat < _; omega))
      have HGW := Aside0.mk (wideE_good s' HG'.out hlt)
      have HNW : Aside0 (normE k (wideE s') = normE 3 s1) := ⟨by rw [← HN'.out, normE, if_pos hlt]⟩
      have HWW : Aside0 (16777216 ≤ (wideE s').width * 256 ^ k) := ⟨by
        have := HW'.out
        rw [show (wideE s').width = s'.width * 256 from shiftE_width _, Int.mul_assoc, Int.mul_comm 256, ← Int.pow_succ]
        exact this⟩
      have HSW : Aside0 (sizeE (wideE s') + k ≤ sizeE s + 3) := ⟨by
        have h1 := HS'.out
        have h2 : sizeE (wideE s') = sizeE s' + 1 := shiftE_size { s' with width := s'.width * 256 } HG'.out.count
        omega⟩
      go_wp2_with fail
      refine HSH.out.mono ?_
      rintro e w4 ⟨rfl, v4, hE4, hM4⟩
      have HE4 := Aside0.mk hE4
      have HM4 := Aside0.mk (HM3.out.trans hM4)
      clear hE4 hM4
      go_wp2
      go_roundg k
      case measure => omega
      case rel => exact ⟨wideE s', v4, HE4, HM4, HGW, HNW, HWW, HSW⟩
    · have HN2 := Aside0.mk (normE_stop gk s' hlt)
      go_wp2
      go_ret
      refine ⟨rfl, v', ?_, HM'.out⟩
      rw [HPE.out, ← HN'.out, HN2.out]
      exact HE'.out
set_option maxHeartbeats 4000000 in
set_option maxRecDepth 100000 in
theorem RNew_any (w : World) : Calls Try.prog 26 #[] w fun e w' => e = .returned (.pointer (some ⟨w.heap.size, 0, none⟩)) ∧ w' = w.alloc (.cells (refCells newE (.slice none 0 0)) 87) := by
  go_enter Try.func26, Try.ntmps26
  go_wp2
  go_ret
  exact ⟨rfl, rfl⟩
theorem rnew_at (w : World) (B : Nat) (hB : B ≤ w.heap.size) : RefAt (w.alloc (.cells (refCells newE (.slice none 0 0)) 87)) B w.heap.size (.slice none 0 0) newE := ⟨blk_new w _, BytesAt.nil _ _, hB⟩
set_option maxHeartbeats 4000000 in
set_option maxRecDepth 100000 in
theorem RBits_no (n k : Int) (a : Option Addr) (w : World) (h : ¬ bitsP n k) :
    Calls Try.prog 32 #[.pointer a, .int .i64 n, .int .i64 k] w fun e w' => e = .returned (.int .i64 1) ∧ Drawn0 w w' := by
  have hup := Try.underlying57
  have HM := Aside0.mk h
  clear h
  by_cases h1 : k < 1
  · go_enter Try.func32, Try.ntmps32
    go_wp2
    go_ret
    exact ⟨rfl, Drawn0.refl _⟩
  · by_cases h2 : 16 < k
    · go_enter Try.func32, Try.ntmps32
      go_wp2
      go_ret
      exact ⟨rfl, Drawn0.refl _⟩
    · by_cases h3 : n < 0
      · go_enter Try.func32, Try.ntmps32
        go_wp2
        go_ret
        exact ⟨rfl, Drawn0.refl _⟩
      · have b1 : 1 ≤ k := by omega
        have b2 : k ≤ 16 := by omega
        have b3 : 0 ≤ n := by omega
        have hle : (2 : Int) ^ k.toNat ≤ 65536 := by
          have h1 : (2 : Int) ^ k.toNat = ((2 ^ k.toNat : Nat) : Int) := by simp
          have h2 : 2 ^ k.toNat ≤ 2 ^ 16 := Nat.pow_le_pow_right (by decide) (by omega)
          rw [h1]
          omega
        have hpos : (0 : Int) < 2 ^ k.toNat := Int.pow_pos (by decide)
        have b4 : ¬ n < 2 ^ k.toNat := fun h => HM.out ⟨b1, b2, b3, h⟩
        have hwp : wrap64 (2 ^ k.toNat) = 2 ^ k.toNat := wrap_id _ (by omega) (by omega)
        obtain ⟨t, ht⟩ : ∃ t : Int, 2 ^ k.toNat = t := ⟨_, rfl⟩
        have hwp2 : wrap64 (2 ^ k.toNat) = t := by rw [hwp]; exact ht
        rw [ht] at b4 hle hpos
        clear ht hwp
        go_enter Try.func32, Try.ntmps32
        go_wp2
        go_ret
        exact ⟨rfl, Drawn0.refl _⟩
set_option maxHeartbeats 4000000 in
set_option maxRecDepth 100000 in
theorem RBits_yes (n k : Int) (s : Enc) (B g : Nat) (v : Value) (w : World) (h : RefAt w B g v s) (hg : Good s) (hw : 16777216 ≤ s.width) (hb : bitsP n k) (hl : sizeE s + 4 < 140737488355328) :
    Calls Try.prog 32 #[.pointer (some ⟨g, 0, none⟩), .int .i64 n, .int .i64 k] w fun e w' => e = .returned (.int .i64 0) ∧ ∃ v', RefAt w' B g v' (putE n 1 (2 ^ k.toNat) s) ∧ Moved B g w v w' v' := by
  have hup := Try.underlying57
  have hp := RPut_yes n 1 (2 ^ k.toNat) s B g v w h hg hw (bits_may n k hb) hl
  obtain ⟨b1, b2, b3, b4⟩ := hb
  have hle : (2 : Int) ^ k.toNat ≤ 65536 := by
    have h1 : (2 : Int) ^ k.toNat = ((2 ^ k.toNat : Nat) : Int) := by simp
    have h2 : 2 ^ k.toNat ≤ 2 ^ 16 := Nat.pow_le_pow_right (by decide) (by omega)
    rw [h1]
    omega
  have hpos : (0 : Int) < 2 ^ k.toNat := Int.pow_pos (by decide)
  have hwp : wrap64 (2 ^ k.toNat) = 2 ^ k.toNat := wrap_id _ (by omega) (by omega)
  obtain ⟨t, ht⟩ : ∃ t : Int, 2 ^ k.toNat = t := ⟨_, rfl⟩
  rw [ht] at hp hwp b4 hle hpos
  have hwp2 : wrap64 (2 ^ k.toNat) = t := by rw [ht]; exact hwp
  have HP := Aside0.mk hp
  have HT := Aside0.mk ht
  clear hp hwp ht
  go_enter Try.func32, Try.ntmps32
  go_wp2_with fail
  refine HP.out.mono ?_
  rintro e w1 ⟨rfl, v1, hE, hM⟩
  have HE := Aside0.mk hE
  have HM := Aside0.mk hM
  clear hE hM
  go_wp2
  go_ret
  rw [HT.out]
  exact ⟨rfl, v1, HE.out, HM.out⟩
end Go.Proofs.Ytoologbaoifheaa.Hand
/- The plain law of layer 18: an encoder's numbers as one great number. -/
namespace Go.Proofs.Ytoologbaoifheaa.Math
open Go.RowKit Go.Proofs.Ytoologbaoifheaa Go.Proofs.Ytoologbaoifheaa.Hand Go.Proofs.YtoologbaoifheaaW.PrintWords
set_option linter.unusedVariables false
set_option linter.unusedSimpArgs false

/-- Bytes as a number, the highest first. -/
def num (l : List Int) : Int := l.foldl (fun a b => a * 256 + b) 0
theorem num_snoc (l : List Int) (b : Int) : num (l ++ [b]) = num l * 256 + b := by simp [num]
theorem num_rep (l : List Int) : ∀ m : Nat, num (l ++ List.replicate m 255) = (num l + 1) * 256 ^ m - 1
  | 0 => by simp
  | m + 1 => by
    rw [List.replicate_succ', ← List.append_assoc, num_snoc, num_rep l m, Int.pow_succ, ← Int.mul_assoc]
    omega
theorem num_zero (l : List Int) : ∀ m : Nat, num (l ++ List.replicate m 0) = num l * 256 ^ m
  | 0 => by simp
  | m + 1 => by
    rw [List.replicate_succ', ← List.append_assoc, num_snoc, num_zero l m, Int.pow_succ, ← Int.mul_assoc]
    omega
/-- What an encoder has written, and what it holds: as one number. -/
def bodyE (s : Enc) : List Int := s.out ++ s.held :: List.replicate (s.count - 1).toNat 255
def T (s : Enc) : Int := num (bodyE s) * 4294967296 + s.low
/-- A carry finds its place. -/
structure Fits (s : Enc) : Prop where
  good : Hand.Good s
  held : s.held = 255 → s.low + s.width ≤ 4294967296
  bytes : ∀ x ∈ s.out, 0 ≤ x ∧ x < 256
theorem body_cons (s : Enc) : bodyE s = (s.out ++ [s.held]) ++ List.replicate (s.count - 1).toNat 255 := by simp [bodyE]
theorem carry_num (s : Enc) (h0 : 0 ≤ s.low) (h1 : s.low < 8589934592) (a0 : 0 ≤ s.held) (a1 : s.held < 256) (hh : s.held = 255 → s.low < 4294967296) : num (carryOut s) = num (bodyE s) + s.low / 4294967296 := by
  have e : carryOut s = (s.out ++ [(s.held + s.low / 4294967296) % 256]) ++ List.replicate (s.count - 1).toNat ((255 + s.low / 4294967296) % 256) := by simp [carryOut]
  rw [e, body_cons, num_rep, num_snoc]
  by_cases hc : s.low < 4294967296
  · have c0 : s.low / 4294967296 = 0 := by omega
    rw [c0, Int.add_zero, Int.add_zero, show (255 : Int) % 256 = 255 from rfl, num_rep, num_snoc, Int.emod_eq_of_lt a0 a1]
    omega
  · have c1 : s.low / 4294967296 = 1 := by omega
    have hne : s.held ≠ 255 := fun h => hc (hh h)
    rw [c1, show ((255 : Int) + 1) % 256 = 0 from rfl, num_zero, num_snoc, Int.emod_eq_of_lt (by omega) (by omega), ← Int.add_assoc]
    omega
theorem T_shift (s : Enc) (h0 : 0 ≤ s.low) (h1 : s.low < 8589934592) (a0 : 0 ≤ s.held) (a1 : s.held < 256) (hc : 1 ≤ s.count) (hh : s.held = 255 → s.low < 4294967296) : T (shiftE s) = T s * 256 := by
  unfold shiftE
  split
  · have hn := carry_num s h0 h1 a0 a1 hh
    have hb : bodyE (onE (carryE s)) = carryOut s ++ [s.low / 16777216 % 256] := by
      unfold bodyE onE carryE
      simp
    unfold T
    rw [hb, num_snoc, hn]
    show ((num (bodyE s) + s.low / 4294967296) * 256 + s.low / 16777216 % 256) * 4294967296 + s.low * 256 % 4294967296 = _
    omega
  · rename_i hf
    unfold flushes at hf
    have hb : bodyE (onE s) = bodyE s ++ [255] := by
      unfold bodyE onE
      show s.out ++ s.held :: List.replicate (s.count + 1 - 1).toNat 255 = _
      rw [show (s.count + 1 - 1).toNat = (s.count - 1).toNat + 1 by omega, List.replicate_succ']
      simp
    unfold T
    rw [hb, num_snoc]
    show (num (bodyE s) * 256 + 255) * 4294967296 + s.low * 256 % 4294967296 = _
    omega
theorem out_shift (s : Enc) (h : ∀ x ∈ s.out, 0 ≤ x ∧ x < 256) : ∀ x ∈ (shiftE s).out, 0 ≤ x ∧ x < 256 := by
  unfold shiftE onE
  split
  · intro x hx
    have hx : x ∈ carryOut s := hx
    unfold carryOut at hx
    rw [List.mem_append, List.mem_cons, List.mem_replicate] at hx
    rcases hx with hx | rfl | ⟨_, rfl⟩
    · exact h x hx
    · omega
    · omega
  · exact h
theorem wide_fits (s : Enc) (h : Fits s) (hw : s.width / 16777216 = 0) : Fits (wideE s) ∧ T (wideE s) = T s * 256 := by
  obtain ⟨⟨a, b, c, d, e, f, g⟩, hh, ho⟩ := h
  have hT : T (wideE s) = T { s with width := s.width * 256 } * 256 := T_shift { s with width := s.width * 256 } a (show s.low < 8589934592 by omega) e f g (fun q => by have := hh q; show s.low < _; omega)
  refine ⟨⟨wideE_good s ⟨a, b, c, d, e, f, g⟩ hw, ?_, out_shift _ ho⟩, hT⟩
  have hl : (wideE s).low = s.low * 256 % 4294967296 := shiftE_low _
  have hwd : (wideE s).width = s.width * 256 := shiftE_width _
  rw [hl, hwd]
  unfold wideE shiftE onE
  split
  · rename_i hf
    intro hq
    have hq : s.low / 16777216 % 256 = 255 := hq
    have hf : s.low < 4278190080 ∨ 4294967296 ≤ s.low := hf
    omega
  · rename_i hf
    intro hq
    have hq : s.held = 255 := hq
    have hf : ¬ (s.low < 4278190080 ∨ 4294967296 ≤ s.low) := hf
    have := hh hq
    omega
theorem part_fits (f n t : Int) (s : Enc) (h : Fits s) (hw : 16777216 ≤ s.width) (hm : mayP f n t) : Fits (partE f n t s) ∧ T (partE f n t s) = T s + s.width / t * f ∧ T (partE f n t s) + (partE f n t s).width ≤ T s + s.width := by
  obtain ⟨m1, m2, m3, m4, m5, m6⟩ := hm
  have r1 : s.width / t * t ≤ s.width := Int.ediv_mul_le _ (by omega)
  have r0 : 0 ≤ s.width / t := Int.ediv_nonneg (by omega) (by omega)
  have r2 : s.width / t * f + s.width / t * n ≤ s.width / t * t := by
    rw [← Int.mul_add]
    exact Int.mul_le_mul_of_nonneg_left (by omega) r0
  have hT : T (partE f n t s) = T s + s.width / t * f := by
    show num (bodyE s) * 4294967296 + (s.low + s.width / t * f) = num (bodyE s) * 4294967296 + s.low + _
    omega
  refine ⟨⟨partE_good f n t s h.good hw ⟨m1, m2, m3, m4, m5, m6⟩, fun q => ?_, h.bytes⟩, hT, ?_⟩
  · have := h.held q
    show s.low + s.width / t * f + s.width / t * n ≤ _
    omega
  · rw [hT]
    show T s + s.width / t * f + s.width / t * n ≤ _
    omega
/-- F lies within s. -/
def Nest (s F : Enc) : Prop := ∃ j : Nat, sizeE F = sizeE s + j ∧ T s * 256 ^ j ≤ T F ∧ T F + F.width ≤ (T s + s.width) * 256 ^ j
theorem Nest.refl (s : Enc) : Nest s s := ⟨0, rfl, by simp, by simp⟩
theorem Nest.trans {s r F : Enc} (h : Nest s r) (k : Nest r F) : Nest s F := by
  obtain ⟨i, a, b, c⟩ := h
  obtain ⟨j, d, e, f⟩ := k
  have hp : (0 : Int) ≤ 256 ^ j := Int.le_of_lt (Int.pow_pos (by decide))
  refine ⟨i + j, by omega, ?_, ?_⟩
  · have := Int.mul_le_mul_of_nonneg_right b hp
    rw [Int.pow_add, ← Int.mul_assoc]
    omega
  · have := Int.mul_le_mul_of_nonneg_right c hp
    rw [Int.pow_add, ← Int.mul_assoc]
    omega
theorem nest_part (f n t : Int) (s : Enc) (h : Fits s) (hw : 16777216 ≤ s.width) (hm : mayP f n t) : Nest s (partE f n t s) := by
  obtain ⟨_, hT, hle⟩ := part_fits f n t s h hw hm
  have : 0 ≤ s.width / t * f := Int.mul_nonneg (Int.ediv_nonneg (by omega) (by have := hm.1; omega)) hm.2.2.1
  exact ⟨0, rfl, by rw [hT]; simp; omega, by simpa using hle⟩
theorem nest_wide (s : Enc) (h : Fits s) (hw : s.width / 16777216 = 0) : Nest s (wideE s) := by
  have hT := (wide_fits s h hw).2
  have hwd : (wideE s).width = s.width * 256 := shiftE_width _
  refine ⟨1, shiftE_size { s with width := s.width * 256 } h.good.count, by rw [hT]; simp, ?_⟩
  rw [hT, hwd, Int.add_mul]
  simp
theorem norm_fits : ∀ (k : Nat) (s : Enc), Fits s → 16777216 ≤ s.width * 256 ^ k → Fits (normE k s) ∧ 16777216 ≤ (normE k s).width ∧ Nest s (normE k s)
  | 0, s, h, hk => ⟨h, by show 16777216 ≤ s.width; simpa using hk, Nest.refl s⟩
  | k + 1, s, h, hk => by
    by_cases hw : s.width / 16777216 = 0
    · obtain ⟨a, b⟩ := wide_fits s h hw
      have hwd : (wideE s).width = s.width * 256 := shiftE_width _
      obtain ⟨c, d, e⟩ := norm_fits k (wideE s) a (by rw [hwd, Int.mul_assoc, Int.mul_comm 256, ← Int.pow_succ]; exact hk)
      rw [normE, if_pos hw]
      exact ⟨c, d, (nest_wide s h hw).trans e⟩
    · rw [normE, if_neg hw]
      exact ⟨h, by have := h.good.wid0; omega, Nest.refl s⟩
theorem put_fits (f n t : Int) (s : Enc) (h : Fits s) (hw : 16777216 ≤ s.width) (hm : mayP f n t) : Fits (putE f n t s) ∧ 16777216 ≤ (putE f n t s).width ∧ Nest (partE f n t s) (putE f n t s) := by
  have hp := part_fits f n t s h hw hm
  have := hp.1.good.wid0
  exact norm_fits 3 _ hp.1 (by omega)
theorem new_fits : Fits newE := ⟨newE_good, fun h => absurd h (by decide), fun x hx => by cases hx⟩
end Go.Proofs.Ytoologbaoifheaa.Math
/- The plain law of layer 18: what an encoder gives is read back. -/
namespace Go.Proofs.Ytoologbaoifheaa.Math
open Go.RowKit Go.Proofs.Ytoologbaoifheaa Go.Proofs.Ytoologbaoifheaa.Hand Go.Proofs.YtoologbaoifheaaW.PrintWords
set_option linter.unusedVariables false
set_option linter.unusedSimpArgs false

theorem low_shifts (s : Enc) (h0 : 0 ≤ s.low) : (shifts 4 s).low = 0 := by
  have e1 : (shifts 1 s).low = s.low * 256 % 4294967296 := shiftE_low _
  have e2 : (shifts 2 s).low = (shifts 1 s).low * 256 % 4294967296 := shiftE_low _
  have e3 : (shifts 3 s).low = (shifts 2 s).low * 256 % 4294967296 := shiftE_low _
  have e4 : (shifts 4 s).low = (shifts 3 s).low * 256 % 4294967296 := shiftE_low _
  omega
theorem shifts_fits (s : Enc) (h : Fits s) : ∀ k, T (shifts k s) = T s * 256 ^ k ∧ 0 ≤ (shifts k s).held ∧ (shifts k s).held < 256 ∧ (∀ x ∈ (shifts k s).out, 0 ≤ x ∧ x < 256)
  | 0 => ⟨by simp [shifts], h.good.held0, h.good.held1, h.bytes⟩
  | k + 1 => by
    obtain ⟨a, b, c, d⟩ := shifts_fits s h k
    obtain ⟨e, f, g, i⟩ := shifts_ok s h.good k
    have hlow : (shifts k s).held = 255 → (shifts k s).low < 4294967296 := by
      intro q
      cases k with
      | zero =>
        have := h.held q
        have := h.good.wid0
        show s.low < _
        omega
      | succ k =>
        have : (shifts (k + 1) s).low = (shifts k s).low * 256 % 4294967296 := shiftE_low _
        omega
    have hlt : (shifts k s).low < 8589934592 := by
      cases k with
      | zero =>
        have := h.good.low1
        have := h.good.wid0
        show s.low < _
        omega
      | succ k =>
        have : (shifts (k + 1) s).low = (shifts k s).low * 256 % 4294967296 := shiftE_low _
        omega
    have hT : T (shifts (k + 1) s) = T (shifts k s) * 256 := T_shift _ e hlt b c g hlow
    have hh := shiftE_held (shifts k s) b c
    exact ⟨by rw [hT, a, Int.pow_succ, Int.mul_assoc], hh.1, hh.2, out_shift _ d⟩
/-- What Finish lays: the great number, as bytes. -/
theorem finish_num (s : Enc) (h : Fits s) : num (shifts 5 s).out = T s ∧ (shifts 5 s).out.length = sizeE s + 4 ∧ (∀ x ∈ (shifts 5 s).out, 0 ≤ x ∧ x < 256) := by
  obtain ⟨a, b, c, d⟩ := shifts_fits s h 5
  obtain ⟨e, f, g, i⟩ := shifts_ok s h.good 5
  have hl := low_shifts s h.good.low0
  have h4 := shifts_fits s h 4
  have ho4 := shifts_ok s h.good 4
  have hs : shifts 5 s = onE (carryE (shifts 4 s)) := by
    show shiftE (shifts 4 s) = _
    unfold shiftE
    rw [if_pos (.inl (by rw [hl]; decide))]
  have hb : bodyE (shifts 5 s) = (shifts 5 s).out ++ [0] := by
    rw [hs]
    unfold bodyE onE carryE
    simp [hl]
  have hlow : (shifts 5 s).low = 0 := by
    have : (shifts 5 s).low = (shifts 4 s).low * 256 % 4294967296 := shiftE_low _
    rw [this, hl]
    rfl
  have hc : (shifts 5 s).count = 1 := by rw [hs]; rfl
  refine ⟨?_, ?_, d⟩
  · unfold T at a
    rw [hb, num_snoc, hlow] at a
    have : T s * 256 ^ 5 = T s * 1099511627776 := by simp
    unfold T at this ⊢
    omega
  · unfold sizeE at i
    rw [hc] at i
    unfold sizeE
    omega
/-- The number of a text's first bytes. -/
def pre (s : ByteArray) (k : Nat) : Int := num ((bytesOf s).take k)
theorem pre_succ (s : ByteArray) (k : Nat) (h : k < s.size) : pre s (k + 1) = pre s k * 256 + bt s (k : Nat) := by
  unfold pre
  rw [List.take_succ_eq_append_getElem (by rw [bytesOf_length]; exact h), num_snoc]
  congr 1
  rw [← rd_bytesOf]
  simp [rd, bytesOf_length, h]
theorem pre_back (s : ByteArray) (k : Nat) : ∀ j, k + j ≤ s.size → pre s k * 256 ^ j ≤ pre s (k + j) ∧ pre s (k + j) < (pre s k + 1) * 256 ^ j
  | 0, _ => ⟨by simp, by simp; omega⟩
  | j + 1, h => by
    obtain ⟨a, b⟩ := pre_back s k j (by omega)
    have hb := bt_lt s ((k + j : Nat) : Int)
    have e := pre_succ s (k + j) (by omega)
    rw [show k + (j + 1) = k + j + 1 by omega, e, Int.pow_succ, ← Int.mul_assoc, ← Int.mul_assoc]
    omega
/-- A decoder that stands where the encoder stood. -/
structure Sim (E : Enc) (d : Dec) : Prop where
  bad : d.bad = false
  width : d.width = E.width
  pos : d.pos = ((sizeE E + 4 : Nat) : Int)
  code : d.code = pre d.s (sizeE E + 4) - T E
/-- The whole text begins with F's number. -/
def Ends (F : Enc) (s : ByteArray) : Prop := sizeE F + 4 ≤ s.size ∧ pre s (sizeE F + 4) = T F
theorem code_in (E F : Enc) (d : Dec) (h : Sim E d) (hn : Nest E F) (he : Ends F d.s) (hF : 1 ≤ F.width) : 0 ≤ d.code ∧ d.code < E.width := by
  obtain ⟨j, a, b, c⟩ := hn
  obtain ⟨e, f⟩ := he
  obtain ⟨p, q⟩ := pre_back d.s (sizeE E + 4) j (by omega)
  rw [show sizeE E + 4 + j = sizeE F + 4 by omega, f] at p q
  have hp : (0 : Int) < 256 ^ j := Int.pow_pos (by decide)
  have h1 : T E < pre d.s (sizeE E + 4) + 1 := by
    rcases Int.lt_or_le (T E) (pre d.s (sizeE E + 4) + 1) with h | h
    · exact h
    · have := Int.mul_le_mul_of_nonneg_right h (Int.le_of_lt hp)
      omega
  have h2 : pre d.s (sizeE E + 4) < T E + E.width := by
    rcases Int.lt_or_le (pre d.s (sizeE E + 4)) (T E + E.width) with h | h
    · exact h
    · have := Int.mul_le_mul_of_nonneg_right h (Int.le_of_lt hp)
      omega
  rw [h.code]
  omega
theorem sim_byte (E F : Enc) (d : Dec) (h : Sim E d) (hf : Fits E) (hw : E.width / 16777216 = 0) (hn : Nest (wideE E) F) (he : Ends F d.s) (hF : 1 ≤ F.width) : ¬ d.pos = d.s.size ∧ Sim (wideE E) (byteD d) := by
  have hc := code_in E F d h ((nest_wide E hf hw).trans hn) he hF
  have hT := (wide_fits E hf hw).2
  have hwd : (wideE E).width = E.width * 256 := shiftE_width _
  have hsz : sizeE (wideE E) = sizeE E + 1 := shiftE_size { E with width := E.width * 256 } hf.good.count
  obtain ⟨j, a, b, c⟩ := hn
  have hlt : sizeE E + 4 < d.s.size := by have := he.1; omega
  refine ⟨by rw [h.pos]; omega, h.bad, ?_, ?_, ?_⟩
  · show d.width * 256 = _
    rw [hwd, h.width]
  · show d.pos + 1 = _
    rw [hsz, h.pos]
    omega
  · show d.code % 16777216 * 256 + bt d.s d.pos = pre d.s _ - _
    rw [hsz, show sizeE E + 1 + 4 = sizeE E + 4 + 1 by omega, pre_succ d.s _ hlt, hT, h.pos, Int.emod_eq_of_lt hc.1 (by omega), h.code]
    omega
theorem sim_norm (F : Enc) (hF : 1 ≤ F.width) : ∀ (k : Nat) (E : Enc) (d : Dec), Sim E d → Fits E → 16777216 ≤ E.width * 256 ^ k → Nest (normE k E) F → Ends F d.s → (normD k d).1 = 0 ∧ Sim (normE k E) (normD k d).2 ∧ (normD k d).2.s = d.s
  | 0, E, d, h, _, _, _, _ => ⟨rfl, h, rfl⟩
  | k + 1, E, d, h, hf, hk, hn, he => by
    by_cases hw : E.width / 16777216 = 0
    · have e1 : normE (k + 1) E = normE k (wideE E) := by rw [normE, if_pos hw]
      have hwd : (wideE E).width = E.width * 256 := shiftE_width _
      have hk2 : 16777216 ≤ (wideE E).width * 256 ^ k := by rw [hwd, Int.mul_assoc, Int.mul_comm 256, ← Int.pow_succ]; exact hk
      have hfw := (wide_fits E hf hw).1
      rw [e1] at hn ⊢
      obtain ⟨p, q⟩ := sim_byte E F d h hf hw ((norm_fits k (wideE E) hfw hk2).2.2.trans hn) he hF
      have e2 : normD (k + 1) d = normD k (byteD d) := by rw [normD, if_pos (by rw [h.width]; exact hw), if_neg p]
      rw [e2]
      exact sim_norm F hF k (wideE E) (byteD d) q hfw hk2 hn he
    · rw [normE, if_neg hw, normD, if_neg (by rw [h.width]; exact hw)]
      exact ⟨rfl, h, rfl⟩
/-- A part is read where it was put. -/
theorem sim_take (f n t : Int) (E F : Enc) (d : Dec) (h : Sim E d) (hf : Fits E) (hw : 16777216 ≤ E.width) (hm : mayP f n t) (hn : Nest (putE f n t E) F) (he : Ends F d.s) (hF : 1 ≤ F.width) :
    (peekD d t).2 = 0 ∧ f ≤ (peekD d t).1 ∧ (peekD d t).1 < f + n ∧ (takeD f n t d).1 = 0 ∧ Sim (putE f n t E) (takeD f n t d).2 ∧ (takeD f n t d).2.s = d.s := by
  obtain ⟨pf, pT, _⟩ := part_fits f n t E hf hw hm
  obtain ⟨uf, uw, un⟩ := put_fits f n t E hf hw hm
  have hs : Sim (partE f n t E) (partD f n t d) := ⟨h.bad, by show d.width / t * n = E.width / t * n; rw [h.width], h.pos, by
    show d.code - d.width / t * f = pre d.s (sizeE E + 4) - T (partE f n t E)
    rw [pT, h.code, h.width]; omega⟩
  have hc := code_in (partE f n t E) F (partD f n t d) hs (un.trans hn) he hF
  have hc0 : 0 ≤ d.code - d.width / t * f := hc.1
  have hc1 : d.code - d.width / t * f < E.width / t * n := hc.2
  rw [h.width] at hc0 hc1
  obtain ⟨m1, m2, m3, m4, m5, m6⟩ := hm
  have r0 : 1 ≤ E.width / t := by
    have := Int.ediv_le_ediv (show (0 : Int) < t by omega) (show t ≤ E.width by omega)
    rwa [Int.ediv_self (by omega)] at this
  have q1 : f ≤ d.code / (E.width / t) := by
    rw [Int.le_ediv_iff_mul_le (by omega), Int.mul_comm]
    omega
  have q2 : d.code / (E.width / t) < f + n := by
    apply Int.ediv_lt_of_lt_mul (by omega)
    rw [Int.mul_comm, Int.mul_add]
    omega
  have hpk : peekD d t = (d.code / (E.width / t), 0) := by
    unfold peekD
    rw [if_neg (by omega), if_neg (by rw [h.bad]; decide), h.width, if_pos (by omega)]
  have htk : takeD f n t d = normD 3 (partD f n t d) := by
    unfold takeD
    rw [if_pos ⟨m1, m2, m3, m4, m5, m6⟩, if_neg (by rw [h.bad]; decide), hpk, if_neg (by show ¬ (d.code / (E.width / t) < f ∨ n ≤ d.code / (E.width / t) - f); omega)]
  obtain ⟨a, b, c⟩ := sim_norm F hF 3 (partE f n t E) (partD f n t d) hs pf (by have := pf.good.wid0; omega) hn he
  rw [hpk, htk]
  exact ⟨rfl, q1, q2, a, b, c⟩
end Go.Proofs.Ytoologbaoifheaa.Math
/- The plain law of layer 18: a row of parts, put and taken. -/
namespace Go.Proofs.Ytoologbaoifheaa.Math
open Go.RowKit Go.Proofs.Ytoologbaoifheaa Go.Proofs.Ytoologbaoifheaa.Hand Go.Proofs.YtoologbaoifheaaW.PrintWords
set_option linter.unusedVariables false
set_option linter.unusedSimpArgs false

abbrev Part := Int × Int × Int
def runE (ps : List Part) (s : Enc) : Enc := ps.foldl (fun s p => putE p.1 p.2.1 p.2.2 s) s
theorem runE_snoc (ps : List Part) (p : Part) (s : Enc) : runE (ps ++ [p]) s = putE p.1 p.2.1 p.2.2 (runE ps s) := by simp [runE]
theorem run_fits (ps : List Part) (hp : ∀ p ∈ ps, mayP p.1 p.2.1 p.2.2) (s : Enc) (h : Fits s) (hw : 16777216 ≤ s.width) : Fits (runE ps s) ∧ 16777216 ≤ (runE ps s).width ∧ Nest s (runE ps s) := by
  induction ps generalizing s with
  | nil => exact ⟨h, hw, Nest.refl s⟩
  | cons p ps ih =>
    have hm := hp p (List.mem_cons_self)
    obtain ⟨a, b, c⟩ := put_fits p.1 p.2.1 p.2.2 s h hw hm
    obtain ⟨d, e, f⟩ := ih (fun q hq => hp q (List.mem_cons_of_mem _ hq)) (putE p.1 p.2.1 p.2.2 s) a b
    exact ⟨d, e, (nest_part p.1 p.2.1 p.2.2 s h hw hm).trans (c.trans f)⟩
theorem normE_size (k : Nat) : ∀ s : Enc, 1 ≤ s.count → sizeE (normE k s) ≤ sizeE s + k := by
  induction k with
  | zero => intro s _; exact Nat.le_refl _
  | succ k ih =>
    intro s h
    rw [normE]
    split
    · have h1 : sizeE (wideE s) = sizeE s + 1 := shiftE_size { s with width := s.width * 256 } h
      have h2 := ih (wideE s) (shiftE_count { s with width := s.width * 256 } h)
      omega
    · omega
theorem putE_size (f n t : Int) (s : Enc) (h : 1 ≤ s.count) : sizeE (putE f n t s) ≤ sizeE s + 3 := normE_size 3 (partE f n t s) h
theorem bytesOf_append (a b : ByteArray) : bytesOf (a ++ b) = bytesOf a ++ bytesOf b := by
  unfold bytesOf
  rw [ByteArray.data_append]
  simp
theorem bytesOf_nums (l : List Int) (h : ∀ x ∈ l, 0 ≤ x ∧ x < 256) : bytesOf (strOfNums l) = l := by
  unfold bytesOf strOfNums
  simp only [List.map_map]
  conv => rhs; rw [← List.map_id l]
  apply List.map_congr_left
  intro x hx
  have := h x hx
  simp
  omega
theorem size_nums (l : List Int) : (strOfNums l).size = l.length := by
  have : (strOfNums l).size = ((l.map fun n => UInt8.ofNat n.toNat).toArray).size := rfl
  rw [this, List.size_toArray, List.length_map]
theorem finish_size (F : Enc) (h : Fits F) : (finishS F).size = sizeE F + 4 := by
  unfold finishS
  rw [size_nums, (finish_num F h).2.1]
theorem finish_ends (F : Enc) (h : Fits F) (behind : ByteArray) : Ends F (finishS F ++ behind) := by
  obtain ⟨a, b, c⟩ := finish_num F h
  refine ⟨by rw [ByteArray.size_append, finish_size F h]; omega, ?_⟩
  unfold pre
  rw [bytesOf_append]
  unfold finishS
  rw [bytesOf_nums _ c, List.take_append_of_le_length (by omega), List.take_of_length_le (by omega), a]
theorem pre_code (s : ByteArray) (h0 : bt s 0 = 0) : ∀ k, k + 1 ≤ s.size → pre s (k + 1) = codeTo s k
  | 0, h => by
    rw [pre_succ s 0 (by omega)]
    show num [] * 256 + bt s 0 = 0
    rw [h0]
    rfl
  | k + 1, h => by rw [pre_succ s (k + 1) (by omega), pre_code s h0 k (by omega), codeTo]
/-- A decoder of the text stands where a new encoder stands. -/
theorem start_sim (F : Enc) (hF : Fits F) (hn : Nest newE F) (s : ByteArray) (he : Ends F s) : Sim newE (ofD s) ∧ (ofD s).s = s := by
  obtain ⟨j, a, b, c⟩ := hn
  obtain ⟨e, f⟩ := he
  have hs1 : sizeE newE = 1 := rfl
  have hT0 : T newE = 0 := rfl
  have hw0 : newE.width = 4294967295 := rfl
  have hsz : 5 ≤ s.size := by omega
  have hp1 : pre s 1 = bt s 0 := by
    rw [pre_succ s 0 (by omega)]
    show num [] * 256 + bt s 0 = _
    show (0 : Int) * 256 + bt s 0 = _
    omega
  have hb := bt_lt s 0
  have h0 : bt s 0 = 0 := by
    obtain ⟨p, q⟩ := pre_back s 1 (sizeE F + 3) (by omega)
    rw [show 1 + (sizeE F + 3) = sizeE F + 4 by omega, f, hp1] at p
    rw [hT0, hw0] at c
    have hw := hF.good.wid0
    have hpos : (0 : Int) < 256 ^ j := Int.pow_pos (by decide)
    have e1 : (256 : Int) ^ (sizeE F + 3) = 256 ^ j * 4294967296 := by
      rw [show sizeE F + 3 = j + 4 by omega, Int.pow_add]
      rfl
    rw [e1] at p
    rcases Int.lt_or_le (bt s 0) 1 with h | h
    · omega
    · have h2 := Int.mul_le_mul_of_nonneg_right h (Int.le_of_lt (Int.mul_pos hpos (show (0 : Int) < 4294967296 by decide)))
      omega
  have hd : ofD s = ⟨s, 5, codeTo s 4, 4294967295, false⟩ := ofD_good s (by rw [h0]; omega)
  rw [hd]
  refine ⟨⟨rfl, rfl, rfl, ?_⟩, rfl⟩
  show codeTo s 4 = pre s 5 - T newE
  rw [hT0, pre_code s h0 4 (by omega)]
  omega
end Go.Proofs.Ytoologbaoifheaa.Math
/- Contracts of layer 18, proved by hand: the reference's Finish. -/
namespace Go.Proofs.Ytoologbaoifheaa.Hand
open Go.RowKit Go.Proofs.Ytoologbaoifheaa.Q Go.Proofs.Ytoologbaoifheaa.Math Go.Proofs.YtoologbaoifheaaW.PrintWords Go.Proofs.YtoologbaoifheaaW.PrintLast Go.Proofs.YtoologbaoifheaaW.PrintMore
set_option linter.unusedVariables false
set_option linter.unusedSimpArgs false

theorem shifts_held (s : Enc) (h : Good s) : ∀ k, 0 ≤ (shifts k s).held ∧ (shifts k s).held < 256
  | 0 => ⟨h.held0, h.held1⟩
  | k + 1 => shiftE_held _ (shifts_held s h k).1 (shifts_held s h k).2
set_option maxHeartbeats 4000000 in
set_option maxRecDepth 100000 in
theorem RFinish_any (s : Enc) (B g : Nat) (v : Value) (w : World) (h : RefAt w B g v s) (hg : Good s) (hl : sizeE s + 8 < 140737488355328) :
    Calls Try.prog 34 #[.pointer (some ⟨g, 0, none⟩)] w fun e w' => e = .returned (.string (finishS s)) ∧ ∃ v', RefAt w' B g v' newE ∧ Moved B g w v w' v' := by
  have hup := Try.underlying57
  have H := Aside0.mk h
  have HG := Aside0.mk hg
  have HL := Aside0.mk hl
  clear h hg hl
  go_enter Try.func34, Try.ntmps34
  go_wp2
  go_loopw [3] (fun i wr => ∃ (d : Nat) (v' : Value), d ≤ 5 ∧ i = .int .i64 d ∧ Aside0 (RefAt wr B g v' (shifts d s)) ∧ Aside0 (Moved B g w v wr v')) (fun i _ => 5 - (intOf i).toNat)
  case atStart => exact ⟨0, v, by omega, rfl, H, ⟨Moved.refl B g w v⟩⟩
  case round =>
    obtain ⟨d, v', hd, rfl, HE, HM⟩ := hrel
    by_cases hlt : d < 5
    · have i1 : (d : Int) < 5 := by omega
      have HO := Aside0.mk (shifts_ok s HG.out d)
      have HSH := Aside0.mk (rshift_any (shifts d s) B g v' wr HE.out HO.out.1 (by have := HO.out.2.1; omega) (shifts_held s HG.out d).1 (shifts_held s HG.out d).2 HO.out.2.2.1 (by have := HO.out.2.2.2; have := HL.out; unfold sizeE at *; omega) (by have := HO.out.2.2.2; have := HL.out; unfold sizeE at *; omega))
      go_wp2_with fail
      refine HSH.out.mono ?_
      rintro e w4 ⟨rfl, v4, hE4, hM4⟩
      have HE4 := Aside0.mk hE4
      have HM4 := Aside0.mk (HM.out.trans hM4)
      clear hE4 hM4
      go_wp2
      go_roundw
      case rel => exact ⟨d + 1, v4, by omega, by go_num, HE4, HM4⟩
      case measure => simp [intOf]; omega
    · obtain rfl : d = 5 := by omega
      have c4 : wr.cell? ⟨g, 4, none⟩ = some v' := HE.out.cell 4
      have hcv := HE.out.2.1.text
      have f0 : wr.frozen? ⟨g, 0, none⟩ = false := blk_frozen HE.out.1 0
      have f1 : wr.frozen? ⟨g, 1, none⟩ = false := blk_frozen HE.out.1 1
      have f2 : wr.frozen? ⟨g, 2, none⟩ = false := blk_frozen HE.out.1 2
      have f3 : wr.frozen? ⟨g, 3, none⟩ = false := blk_frozen HE.out.1 3
      have f4 : wr.frozen? ⟨g, 4, none⟩ = false := blk_frozen HE.out.1 4
      have g0 : wr.cell? ⟨g, 0, none⟩ = some (.int .i64 (shifts 5 s).low) := HE.out.cell 0
      have g1 : wr.cell? ⟨g, 1, none⟩ = some (.int .i64 (shifts 5 s).width) := HE.out.cell 1
      have g2 : wr.cell? ⟨g, 2, none⟩ = some (.int .i64 (shifts 5 s).held) := HE.out.cell 2
      have g3 : wr.cell? ⟨g, 3, none⟩ = some (.int .i64 (shifts 5 s).count) := HE.out.cell 3
      go_wp2
      go_ret
      refine ⟨rfl, .slice none 0 0, RefAt.put ((((HE.out.set (s' := { shifts 5 s with low := 0 }) 0 _ rfl rfl).set (s' := { shifts 5 s with low := 0, width := 4294967295 }) 1 _ rfl rfl).set (s' := { shifts 5 s with low := 0, width := 4294967295, held := 0 }) 2 _ rfl rfl).set (s' := { newE with out := (shifts 5 s).out }) 3 _ rfl rfl).1 (BytesAt.nil _ _) HE.out.2.2, ?_⟩
      have hm := ((((HM.out.set HE.out.2.2 0 (.int .i64 0)).set HE.out.2.2 1 (.int .i64 4294967295)).set HE.out.2.2 2 (.int .i64 0)).set HE.out.2.2 3 (.int .i64 1)).set HE.out.2.2 4 (.slice none 0 0)
      exact ⟨hm.below, hm.kept, fun k hk => by cases hk⟩
end Go.Proofs.Ytoologbaoifheaa.Hand
/- Contracts of layer 19, proved by hand: counts. -/
namespace Go.Proofs.Ytoologbaoifheaa.Hand
open Go.RowKit Go.Proofs.YtoologbaoifheaaW.PrintWords Go.Proofs.YtoologbaoifheaaW.PrintLast Go.Proofs.YtoologbaoifheaaW.PrintMore
set_option linter.unusedVariables false
set_option linter.unusedSimpArgs false

/-- Counts in block g: 42 numbers and their sum. -/
def cntCells (c : List Int) (s : Int) : Array Value := (c.map (Value.int .i64) ++ [Value.int .i64 s]).toArray
def CntAt (w : World) (g : Nat) (c : List Int) (s : Int) : Prop := w.heap[g]? = some (.cells (cntCells c s) 53 (0, 0)) ∧ c.length = 42
theorem CntAt.below {w w' : World} {g : Nat} {c : List Int} {s : Int} (h : CntAt w g c s) (hb : Below w.heap.size w w') : CntAt w' g c s := ⟨blk_below h.1 hb, h.2⟩
theorem CntAt.lt {w : World} {g : Nat} {c : List Int} {s : Int} (h : CntAt w g c s) : g < w.heap.size := blk_lt h.1
theorem CntAt.cell {w : World} {g : Nat} {c : List Int} {s : Int} (h : CntAt w g c s) (i : Nat) (hi : i < 42) : w.cell? ⟨g, i, none⟩ = some (.int .i64 (c.getD i 0)) := by
  refine (blk_cell h.1 i).trans ?_
  have h2 := h.2
  unfold cntCells
  rw [List.getElem?_toArray, List.getElem?_append_left (by rw [List.length_map]; omega), List.getElem?_map, List.getD_eq_getElem?_getD, List.getElem?_eq_getElem (by omega)]
  rfl
theorem CntAt.total {w : World} {g : Nat} {c : List Int} {s : Int} (h : CntAt w g c s) : w.cell? ⟨g, 42, none⟩ = some (.int .i64 s) := by
  refine (blk_cell h.1 42).trans ?_
  have h2 := h.2
  unfold cntCells
  rw [List.getElem?_toArray, List.getElem?_append_right (by rw [List.length_map]; omega), List.length_map, h2]
  rfl
theorem CntAt.frozen {w : World} {g : Nat} {c : List Int} {s : Int} (h : CntAt w g c s) (i : Nat) : w.frozen? ⟨g, i, none⟩ = false := blk_frozen h.1 i
theorem CntAt.set {w : World} {g : Nat} {c : List Int} {s : Int} (h : CntAt w g c s) (i : Nat) (hi : i < 42) (y : Int) : CntAt (w.setCell ⟨g, i, none⟩ (.int .i64 y)) g (c.set i y) s := by
  refine ⟨blk_put h.1 i _ ?_, by rw [List.length_set]; exact h.2⟩
  have h2 := h.2
  unfold cntCells
  apply Array.ext'
  simp
  rw [List.set_append_left _ _ (by rw [List.length_map]; omega)]
theorem CntAt.setSum {w : World} {g : Nat} {c : List Int} {s : Int} (h : CntAt w g c s) (y : Int) : CntAt (w.setCell ⟨g, 42, none⟩ (.int .i64 y)) g c y := by
  refine ⟨blk_put h.1 42 _ ?_, h.2⟩
  have h2 := h.2
  unfold cntCells
  apply Array.ext'
  simp
  rw [List.set_append_right _ _ (by rw [List.length_map]; omega), List.length_map, h2]
  rfl
/-- Small numbers, none below nought. -/
def Small (c : List Int) : Prop := ∀ i : Nat, 0 ≤ c.getD i 0 ∧ c.getD i 0 ≤ 65536
def belowC (c : List Int) : Nat → Int
  | 0 => 0
  | i + 1 => belowC c i + c.getD i 0
theorem belowC_in (c : List Int) (h : Small c) : ∀ i, 0 ≤ belowC c i ∧ belowC c i ≤ 65536 * i
  | 0 => ⟨Int.le_refl _, by simp [belowC]⟩
  | i + 1 => by
    have := belowC_in c h i
    have := h i
    simp only [belowC]
    omega
set_option maxHeartbeats 4000000 in
set_option maxRecDepth 100000 in
theorem span_any (c : List Int) (s : Int) (hs : Small c) (x : Nat) (hx : x < 42) (g : Nat) (w : World) (h : CntAt w g c s) :
    Calls Try.prog 21 #[.pointer (some ⟨g, 0, none⟩), .int .i64 x] w fun e w' => e = .returned (.tuple #[.int .i64 (belowC c x), .int .i64 (c.getD x 0)]) ∧ Drawn0 w w' := by
  have H := Aside0.mk h
  have HS := Aside0.mk hs
  have x0 : (0 : Int) ≤ (x : Int) := by omega
  have x1 : (x : Int) < 42 := by omega
  have x2 : (x : Int) ≤ 42 := by omega
  clear h hs
  go_enter Try.func21, Try.ntmps21
  go_wp2
  go_loopw [6, 15] (fun sv iv wr => ∃ i : Nat, i ≤ x ∧ iv = .int .i64 i ∧ sv = .int .i64 (belowC c i) ∧ wr = w) (fun _ iv _ => x - (intOf iv).toNat)
  case atStart => exact ⟨0, Nat.zero_le _, rfl, rfl, rfl⟩
  case round =>
    obtain ⟨i, hi, rfl, rfl, rfl⟩ := hrel
    by_cases hlt : i < x
    · have i0 : (0 : Int) ≤ (i : Int) := by omega
      have i1 : (i : Int) < (x : Int) := by omega
      have cI : wr.cell? ⟨g, i, none⟩ = some (.int .i64 (c.getD i 0)) := H.out.cell i (by omega)
      have hn : belowC c (i + 1) = belowC c i + c.getD i 0 := rfl
      have hb := belowC_in c HS.out i
      have hc := HS.out i
      have e1 : IntKind.i64.wrap (belowC c i + c.getD i 0) = belowC c (i + 1) := by rw [hn, IntKind.wrap_i64]; omega
      clear hn hb hc
      generalize belowC c i = b at e1 ⊢
      obtain ⟨b2, hb2⟩ : ∃ b2, belowC c (i + 1) = b2 := ⟨_, rfl⟩
      rw [hb2] at e1
      have HB2 := Aside0.mk hb2
      clear hb2
      generalize c.getD i 0 = y at e1 cI
      go_wp2
      go_roundw
      case rel => exact ⟨i + 1, by omega, by go_num, by rw [HB2.out], by trivial⟩
      case measure => simp [intOf]; omega
    · obtain rfl : i = x := by omega
      have cI : wr.cell? ⟨g, i, none⟩ = some (.int .i64 (c.getD i 0)) := H.out.cell i (by omega)
      go_wp2
      go_big_quiet (fail)
      go_wp2
      go_ret2
      exact ⟨rfl, ⟨nq, rfl⟩⟩
/-- In whose part a place lies: the class from x on. -/
def findC (c : List Int) : Nat → Nat → Int → Nat
  | 0, x, _ => x
  | k + 1, x, at_ => if c.getD x 0 ≤ at_ ∧ x < 41 then findC c k (x + 1) (at_ - c.getD x 0) else x
set_option maxHeartbeats 4000000 in
set_option maxRecDepth 100000 in
theorem find_any (c : List Int) (s : Int) (hs : Small c) (a : Int) (a0 : 0 ≤ a) (a1 : a ≤ 65536) (g : Nat) (w : World) (h : CntAt w g c s) :
    Calls Try.prog 49 #[.pointer (some ⟨g, 0, none⟩), .int .i64 a] w fun e w' => e = .returned (.int .i64 (findC c 42 0 a)) ∧ w = w' := by
  have H := Aside0.mk h
  have HS := Aside0.mk hs
  obtain ⟨r, hr⟩ : ∃ r, findC c 42 0 a = r := ⟨_, rfl⟩
  have HR := Aside0.mk hr
  rw [hr]
  clear h hs hr
  go_enter Try.func49, Try.ntmps49
  go_wp2
  go_loopg [1, 5] 42 (fun k av xv wr => ∃ (x : Nat) (b : Int), x + k = 42 ∧ x ≤ 41 ∧ 0 ≤ b ∧ b ≤ 65536 ∧ xv = .int .i64 x ∧ av = .int .i64 b ∧ wr = w ∧ Aside0 (findC c k x b = r))
  case atStart => exact ⟨0, a, rfl, by omega, a0, a1, rfl, rfl, rfl, HR⟩
  case round =>
    obtain ⟨x, b, hxk, hx41, b0, b1, rfl, rfl, rfl, HF⟩ := hrel
    cases gk with
    | zero => exact absurd hxk (by omega)
    | succ k =>
      have x0 : (0 : Int) ≤ (x : Int) := by omega
      have x1 : (x : Int) < 42 := by omega
      have cI : wr.cell? ⟨g, x, none⟩ = some (.int .i64 (c.getD x 0)) := H.out.cell x (by omega)
      have hc := HS.out x
      have hf : findC c (k + 1) x b = if c.getD x 0 ≤ b ∧ x < 41 then findC c k (x + 1) (b - c.getD x 0) else x := rfl
      have HF2 := Aside0.mk (hf.symm.trans HF.out)
      clear HF hf
      generalize c.getD x 0 = y at cI hc HF2
      by_cases hle : y ≤ b ∧ x < 41
      · obtain ⟨l1, l2⟩ := hle
        have l3 : (x : Int) < 41 := by omega
        have HF3 : Aside0 (findC c k (x + 1) (b - y) = r) := ⟨by have := HF2.out; rw [if_pos ⟨l1, l2⟩] at this; exact this⟩
        have e1 : IntKind.i64.wrap (b - y) = b - y := by rw [IntKind.wrap_i64]; omega
        go_wp2
        go_roundg k
        case measure => omega
        case rel => exact ⟨x + 1, b - y, by omega, by omega, by omega, by omega, by go_num, rfl, rfl, HF3⟩
      · have HF3 : Aside0 (x = r) := ⟨by have := HF2.out; rw [if_neg hle] at this; exact this⟩
        have hor : (¬ y ≤ b) ∨ (y ≤ b ∧ ¬ (x : Int) < 41) := by omega
        clear hle
        rcases hor with l1 | ⟨l1, l3⟩
        · go_wp2
          go_ret
          rw [HF3.out]
          exact ⟨rfl, rfl⟩
        · go_wp2
          go_ret
          rw [HF3.out]
          exact ⟨rfl, rfl⟩
end Go.Proofs.Ytoologbaoifheaa.Hand
