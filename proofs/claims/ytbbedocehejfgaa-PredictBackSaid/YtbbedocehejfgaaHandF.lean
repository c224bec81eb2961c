/- Contracts of layer 9, proved by hand, the sixth part: two, Stereo, Unstereo. -/
import Derived.Test.YtbbedocehejfgaaHandE
namespace Go.Proofs.Ytbbedocehejfgaa.Hand
open Go.RowKit Go.Proofs.YtbbedocehejfgaaW.PrintWords Go.Proofs.YtbbedocehejfgaaW.PrintLast Go.Proofs.YtbbedocehejfgaaW.PrintMore
set_option linter.unusedVariables false
set_option linter.unusedSimpArgs false

set_option maxHeartbeats 4000000 in
set_option maxRecDepth 100000 in
theorem two_stereo (mode most : Int) (a b : List Int) (A1 A2 : Option Addr) (c1 c2 gm : Nat) (w : World) (hm : w.cell? ⟨gm, 0, none⟩ = some (.int .i64 mode)) (h0 : 0 ≤ most) (h9 : most ≤ 4611686018427387904)
    (ha : ReadsInt w .i64 A1 a.length a) (hb : ReadsInt w .i64 A2 b.length b) (hz : a.length * 8 ≤ 140737488355328) :
    Calls Try.prog 40 #[.slice A1 a.length c1, .slice A2 b.length c2, .int .i64 most, .func (.func 41) #[] #[.pointer (some ⟨gm, 0, none⟩)]] w fun e w' => ∃ p q : Value, e = .returned (.tuple #[p, q, .int .i64 (twoF most (stereo2 mode) a b).2.2]) ∧
      Kd.R (Kd.int .i64) 3 w' w.heap.size (fun k_ => some k_ ≠ (q : Value).ownBlock) p (twoF most (stereo2 mode) a b).1 ∧ Kd.R (Kd.int .i64) 3 w' w.heap.size (fun k_ => some k_ ≠ (p : Value).ownBlock) q (twoF most (stereo2 mode) a b).2.1 ∧ Below w.heap.size w w' := by
  have HA := Aside0.mk ha
  have HB := Aside0.mk hb
  have HM := Aside0.mk hm
  have hmax := ha.2.1
  have hmax2 := hb.2.1
  clear ha hb hm
  by_cases hlen : a.length = b.length
  · have e1 : ((a.length : Int) != (b.length : Int)) = false := by simp [hlen]
    have e2 : (a.length != b.length) = false := by simp [hlen]
    have HLEN := Aside0.mk hlen
    clear hlen
    go_enter Try.func40, Try.ntmps40
    go_wp2
    go_loopw [11, 12, 23] (fun p q i wr => ∃ d : Nat, d ≤ a.length ∧ i = .int .i64 d ∧ Aside0 (okTo most a b d) ∧ Aside0 (Pair w wr p q (twoL (stereo2 mode) a b d) (twoR (stereo2 mode) a b d))) (fun _ _ i _ => a.length - (intOf i).toNat)
    case atStart => exact ⟨0, by omega, rfl, ⟨fun j hj => absurd hj (by omega)⟩, ⟨Pair.start w⟩⟩
    case round =>
      obtain ⟨d, hd, rfl, HK, HO⟩ := hrel
      by_cases hlt : d < a.length
      · have i1 : (d : Int) < (a.length : Int) := by omega
        have i2 : (d : Int) < (b.length : Int) := by have := HLEN.out; omega
        obtain ⟨ad1, rfl, hx⟩ := HA.out.at_ (d : Int) (by omega) i1
        obtain ⟨ad2, rfl, hy⟩ := HB.out.at_ (d : Int) (by omega) i2
        rw [Int.toNat_natCast] at hx hy
        have hbl := HO.out.2.2.2
        replace hx := (hbl.cell (World.block_lt_of_cell? w _ hx)).trans hx
        replace hy := (hbl.cell (World.block_lt_of_cell? w _ hy)).trans hy
        have hg := (hbl.cell (World.block_lt_of_cell? w _ HM.out)).trans HM.out
        clear hbl
        generalize hx1 : rd a (d : Int) = x1 at hx
        generalize hy1 : rd b (d : Int) = y1 at hy
        have HX := Aside0.mk hx1
        have HY := Aside0.mk hy1
        clear hx1 hy1
        by_cases t1 : most < x1
        · have HF := Aside0.mk (twoF_no (most := most) (df := stereo2 mode) (a := a) (b := b) d hlt (by rw [HX.out, HY.out]; unfold inside; omega))
          go_wp2
          go_ret3
          rw [HF.out]
          exact ⟨_, _, rfl, Kd.R_nil _ _ _ _ _, Kd.R_nil _ _ _ _ _, HO.out.2.2.2⟩
        by_cases t2 : x1 < -most
        · have HF := Aside0.mk (twoF_no (most := most) (df := stereo2 mode) (a := a) (b := b) d hlt (by rw [HX.out, HY.out]; unfold inside; omega))
          go_wp2
          go_ret3
          rw [HF.out]
          exact ⟨_, _, rfl, Kd.R_nil _ _ _ _ _, Kd.R_nil _ _ _ _ _, HO.out.2.2.2⟩
        by_cases t3 : most < y1
        · have HF := Aside0.mk (twoF_no (most := most) (df := stereo2 mode) (a := a) (b := b) d hlt (by rw [HX.out, HY.out]; unfold inside; omega))
          go_wp2
          go_ret3
          rw [HF.out]
          exact ⟨_, _, rfl, Kd.R_nil _ _ _ _ _, Kd.R_nil _ _ _ _ _, HO.out.2.2.2⟩
        by_cases t4 : y1 < -most
        · have HF := Aside0.mk (twoF_no (most := most) (df := stereo2 mode) (a := a) (b := b) d hlt (by rw [HX.out, HY.out]; unfold inside; omega))
          go_wp2
          go_ret3
          rw [HF.out]
          exact ⟨_, _, rfl, Kd.R_nil _ _ _ _ _, Kd.R_nil _ _ _ _ _, HO.out.2.2.2⟩
        have HIN := Aside0.mk (show inside most (rd a (d : Nat)) ∧ inside most (rd b (d : Nat)) by rw [HX.out, HY.out]; unfold inside; omega)
        have HQ := Aside0.mk (show ∀ n : Nat, Calls Try.prog 41 #[.int .i64 x1, .int .i64 y1, .pointer (some ⟨gm, 0, none⟩)] (wr.drewN n) fun e w'' => e = .returned (.tuple #[.int .i64 (stereo2 mode x1 y1).1, .int .i64 (stereo2 mode x1 y1).2]) ∧ ∃ m, w'' = wr.drewN m from
          fun n => (stereo1_any mode x1 y1 gm (wr.drewN n) hg).mono fun _ _ ⟨h1, h2⟩ => ⟨h1, n, h2.symm⟩)
        have hl1 : (twoL (stereo2 mode) a b d).length < 17592186044416 := by rw [twoL_length]; omega
        have hl2 : (twoR (stereo2 mode) a b d).length < 17592186044416 := by rw [twoR_length]; omega
        have HL1 := Aside0.mk hl1
        have HL2 := Aside0.mk hl2
        clear hl1 hl2
        go_wp2_with fail
        go_quiet ((go_at_call 41; exact HQ.out _))
        go_wp2_with (first
          | (at_builtin; (with_reducible refine pair_left (w0 := w) (p := u11) (q := u12) (xs := twoL (stereo2 mode) a b d) (ys := twoR (stereo2 mode) a b d) (.tmp 71) (.tmp 73) _ ?_ ?_ ?_ ?_ ?_ ?_ ?_); rfl; rfl; rfl; rfl; exact HO.out.drewN nq; exact HL1.out; intro v1 w2 HO1)
          | (at_builtin; (with_reducible refine pair_right (w0 := w) (p := v1) (q := u12) (xs := twoL (stereo2 mode) a b d ++ [(stereo2 mode x1 y1).1]) (ys := twoR (stereo2 mode) a b d) (.tmp 75) (.tmp 77) _ ?_ ?_ ?_ ?_ ?_ ?_ ?_); rfl; rfl; rfl; rfl; exact HO1.out; exact HL2.out; intro v3 w3 HO2))
        refine ⟨⟨d + 1, by omega, by go_num, ⟨fun j hj => ?_⟩, ⟨?_⟩⟩, by simp [intOf]; omega⟩
        · by_cases e : j = d
          · subst e; exact HIN.out
          · exact HK.out j (by omega)
        · rw [twoL_snoc, twoR_snoc, HX.out, HY.out]
          exact HO2.out
      · obtain rfl : d = a.length := by omega
        have HF := Aside0.mk (show twoF most (stereo2 mode) a b = _ from if_pos ⟨HLEN.out, HK.out⟩)
        go_wp2
        go_ret3
        rw [HF.out]
        exact ⟨_, _, rfl, HO.out.kd⟩
  · have HF := Aside0.mk (show twoF most (stereo2 mode) a b = _ from if_neg (fun h => hlen h.1))
    have e1 : ((a.length : Int) != (b.length : Int)) = true := by rw [bne_iff_ne]; omega
    have e2 : (a.length != b.length) = true := by rw [bne_iff_ne]; exact hlen
    clear hlen
    go_enter Try.func40, Try.ntmps40
    go_wp2
    go_ret3
    rw [HF.out]
    exact ⟨_, _, rfl, Kd.R_nil _ _ _ _ _, Kd.R_nil _ _ _ _ _, Below.refl _ _⟩

/-- What Stereo gives. -/
def stereoF (mode : Int) (a b : List Int) : List Int × List Int × Int := if 0 ≤ mode ∧ mode ≤ 3 then twoF 1099511627776 (stereo2 mode) a b else ([], [], 1)
set_option maxHeartbeats 4000000 in
set_option maxRecDepth 100000 in
theorem Stereo_any (mode : Int) (a b : List Int) (A1 A2 : Option Addr) (c1 c2 : Nat) (w : World) (ha : ReadsInt w .i64 A1 a.length a) (hb : ReadsInt w .i64 A2 b.length b) (hz : a.length * 8 ≤ 140737488355328) :
    Calls Try.prog 20 #[.int .i64 mode, .slice A1 a.length c1, .slice A2 b.length c2] w fun e w' => ∃ p q : Value, e = .returned (.tuple #[p, q, .int .i64 (stereoF mode a b).2.2]) ∧
      Kd.R (Kd.int .i64) 3 w' w.heap.size (fun k_ => some k_ ≠ (q : Value).ownBlock) p (stereoF mode a b).1 ∧ Kd.R (Kd.int .i64) 3 w' w.heap.size (fun k_ => some k_ ≠ (p : Value).ownBlock) q (stereoF mode a b).2.1 ∧ Below w.heap.size w w' := by
  have hmf : ∀ (fn : Fn) (first cap : Array Value) (w : World), (Instr.makeFunc fn first cap).run Try.prog w = .ok (.func fn first cap) w := fun _ _ _ _ => rfl
  have HA := Aside0.mk ha
  have HB := Aside0.mk hb
  clear ha hb
  by_cases h0 : mode < 0
  · have HF := Aside0.mk (show stereoF mode a b = _ from if_neg (fun h => absurd h.1 (by omega)))
    go_enter Try.func20, Try.ntmps20
    go_wp2
    go_ret3
    rw [HF.out]
    exact ⟨_, _, rfl, Kd.R_nil _ _ _ _ _, Kd.R_nil _ _ _ _ _, below_alloc (Below.refl _ _) _⟩
  by_cases h3 : 3 < mode
  · have HF := Aside0.mk (show stereoF mode a b = _ from if_neg (fun h => absurd h.2 (by omega)))
    go_enter Try.func20, Try.ntmps20
    go_wp2
    go_ret3
    rw [HF.out]
    exact ⟨_, _, rfl, Kd.R_nil _ _ _ _ _, Kd.R_nil _ _ _ _ _, below_alloc (Below.refl _ _) _⟩
  have HF := Aside0.mk (show stereoF mode a b = _ from if_pos ⟨by omega, by omega⟩)
  go_enter Try.func20, Try.ntmps20
  go_wp2_with fail
  refine (two_stereo mode 1099511627776 a b A1 A2 c1 c2 w.heap.size _ (cell_new w _ _ 0) (by decide) (by decide) (HA.out.below (below_alloc (Below.refl _ _) _)) (HB.out.below (below_alloc (Below.refl _ _) _)) hz).mono ?_
  rintro e w1 ⟨p, q, rfl, h1, h2, h3⟩
  have H1 := Aside0.mk h1
  have H2 := Aside0.mk h2
  have H3 := Aside0.mk h3
  clear h1 h2 h3
  go_wp2
  go_ret3
  rw [HF.out]
  exact ⟨_, _, rfl, Kd.R_lower H1.out (by simp), Kd.R_lower H2.out (by simp), (below_alloc (Below.refl _ _) _).trans (H3.out.mono (by simp))⟩

set_option maxHeartbeats 4000000 in
set_option maxRecDepth 100000 in
theorem two_unstereo (mode most : Int) (a b : List Int) (A1 A2 : Option Addr) (c1 c2 gm : Nat) (w : World) (hm : w.cell? ⟨gm, 0, none⟩ = some (.int .i64 mode)) (h0 : 0 ≤ most) (h9 : most ≤ 4611686018427387904)
    (ha : ReadsInt w .i64 A1 a.length a) (hb : ReadsInt w .i64 A2 b.length b) (hz : a.length * 8 ≤ 140737488355328) :
    Calls Try.prog 40 #[.slice A1 a.length c1, .slice A2 b.length c2, .int .i64 most, .func (.func 43) #[] #[.pointer (some ⟨gm, 0, none⟩)]] w fun e w' => ∃ p q : Value, e = .returned (.tuple #[p, q, .int .i64 (twoF most (unstereo2 mode) a b).2.2]) ∧
      Kd.R (Kd.int .i64) 3 w' w.heap.size (fun k_ => some k_ ≠ (q : Value).ownBlock) p (twoF most (unstereo2 mode) a b).1 ∧ Kd.R (Kd.int .i64) 3 w' w.heap.size (fun k_ => some k_ ≠ (p : Value).ownBlock) q (twoF most (unstereo2 mode) a b).2.1 ∧ Below w.heap.size w w' := by
  have HA := Aside0.mk ha
  have HB := Aside0.mk hb
  have HM := Aside0.mk hm
  have hmax := ha.2.1
  have hmax2 := hb.2.1
  clear ha hb hm
  by_cases hlen : a.length = b.length
  · have e1 : ((a.length : Int) != (b.length : Int)) = false := by simp [hlen]
    have e2 : (a.length != b.length) = false := by simp [hlen]
    have HLEN := Aside0.mk hlen
    clear hlen
    go_enter Try.func40, Try.ntmps40
    go_wp2
    go_loopw [11, 12, 23] (fun p q i wr => ∃ d : Nat, d ≤ a.length ∧ i = .int .i64 d ∧ Aside0 (okTo most a b d) ∧ Aside0 (Pair w wr p q (twoL (unstereo2 mode) a b d) (twoR (unstereo2 mode) a b d))) (fun _ _ i _ => a.length - (intOf i).toNat)
    case atStart => exact ⟨0, by omega, rfl, ⟨fun j hj => absurd hj (by omega)⟩, ⟨Pair.start w⟩⟩
    case round =>
      obtain ⟨d, hd, rfl, HK, HO⟩ := hrel
      by_cases hlt : d < a.length
      · have i1 : (d : Int) < (a.length : Int) := by omega
        have i2 : (d : Int) < (b.length : Int) := by have := HLEN.out; omega
        obtain ⟨ad1, rfl, hx⟩ := HA.out.at_ (d : Int) (by omega) i1
        obtain ⟨ad2, rfl, hy⟩ := HB.out.at_ (d : Int) (by omega) i2
        rw [Int.toNat_natCast] at hx hy
        have hbl := HO.out.2.2.2
        replace hx := (hbl.cell (World.block_lt_of_cell? w _ hx)).trans hx
        replace hy := (hbl.cell (World.block_lt_of_cell? w _ hy)).trans hy
        have hg := (hbl.cell (World.block_lt_of_cell? w _ HM.out)).trans HM.out
        clear hbl
        generalize hx1 : rd a (d : Int) = x1 at hx
        generalize hy1 : rd b (d : Int) = y1 at hy
        have HX := Aside0.mk hx1
        have HY := Aside0.mk hy1
        clear hx1 hy1
        by_cases t1 : most < x1
        · have HF := Aside0.mk (twoF_no (most := most) (df := unstereo2 mode) (a := a) (b := b) d hlt (by rw [HX.out, HY.out]; unfold inside; omega))
          go_wp2
          go_ret3
          rw [HF.out]
          exact ⟨_, _, rfl, Kd.R_nil _ _ _ _ _, Kd.R_nil _ _ _ _ _, HO.out.2.2.2⟩
        by_cases t2 : x1 < -most
        · have HF := Aside0.mk (twoF_no (most := most) (df := unstereo2 mode) (a := a) (b := b) d hlt (by rw [HX.out, HY.out]; unfold inside; omega))
          go_wp2
          go_ret3
          rw [HF.out]
          exact ⟨_, _, rfl, Kd.R_nil _ _ _ _ _, Kd.R_nil _ _ _ _ _, HO.out.2.2.2⟩
        by_cases t3 : most < y1
        · have HF := Aside0.mk (twoF_no (most := most) (df := unstereo2 mode) (a := a) (b := b) d hlt (by rw [HX.out, HY.out]; unfold inside; omega))
          go_wp2
          go_ret3
          rw [HF.out]
          exact ⟨_, _, rfl, Kd.R_nil _ _ _ _ _, Kd.R_nil _ _ _ _ _, HO.out.2.2.2⟩
        by_cases t4 : y1 < -most
        · have HF := Aside0.mk (twoF_no (most := most) (df := unstereo2 mode) (a := a) (b := b) d hlt (by rw [HX.out, HY.out]; unfold inside; omega))
          go_wp2
          go_ret3
          rw [HF.out]
          exact ⟨_, _, rfl, Kd.R_nil _ _ _ _ _, Kd.R_nil _ _ _ _ _, HO.out.2.2.2⟩
        have HIN := Aside0.mk (show inside most (rd a (d : Nat)) ∧ inside most (rd b (d : Nat)) by rw [HX.out, HY.out]; unfold inside; omega)
        have HQ := Aside0.mk (show ∀ n : Nat, Calls Try.prog 43 #[.int .i64 x1, .int .i64 y1, .pointer (some ⟨gm, 0, none⟩)] (wr.drewN n) fun e w'' => e = .returned (.tuple #[.int .i64 (unstereo2 mode x1 y1).1, .int .i64 (unstereo2 mode x1 y1).2]) ∧ ∃ m, w'' = wr.drewN m from
          fun n => (unstereo1_any mode x1 y1 gm (wr.drewN n) hg).mono fun _ _ ⟨h1, h2⟩ => ⟨h1, n, h2.symm⟩)
        have hl1 : (twoL (unstereo2 mode) a b d).length < 17592186044416 := by rw [twoL_length]; omega
        have hl2 : (twoR (unstereo2 mode) a b d).length < 17592186044416 := by rw [twoR_length]; omega
        have HL1 := Aside0.mk hl1
        have HL2 := Aside0.mk hl2
        clear hl1 hl2
        go_wp2_with fail
        go_quiet ((go_at_call 43; exact HQ.out _))
        go_wp2_with (first
          | (at_builtin; (with_reducible refine pair_left (w0 := w) (p := u11) (q := u12) (xs := twoL (unstereo2 mode) a b d) (ys := twoR (unstereo2 mode) a b d) (.tmp 71) (.tmp 73) _ ?_ ?_ ?_ ?_ ?_ ?_ ?_); rfl; rfl; rfl; rfl; exact HO.out.drewN nq; exact HL1.out; intro v1 w2 HO1)
          | (at_builtin; (with_reducible refine pair_right (w0 := w) (p := v1) (q := u12) (xs := twoL (unstereo2 mode) a b d ++ [(unstereo2 mode x1 y1).1]) (ys := twoR (unstereo2 mode) a b d) (.tmp 75) (.tmp 77) _ ?_ ?_ ?_ ?_ ?_ ?_ ?_); rfl; rfl; rfl; rfl; exact HO1.out; exact HL2.out; intro v3 w3 HO2))
        refine ⟨⟨d + 1, by omega, by go_num, ⟨fun j hj => ?_⟩, ⟨?_⟩⟩, by simp [intOf]; omega⟩
        · by_cases e : j = d
          · subst e; exact HIN.out
          · exact HK.out j (by omega)
        · rw [twoL_snoc, twoR_snoc, HX.out, HY.out]
          exact HO2.out
      · obtain rfl : d = a.length := by omega
        have HF := Aside0.mk (show twoF most (unstereo2 mode) a b = _ from if_pos ⟨HLEN.out, HK.out⟩)
        go_wp2
        go_ret3
        rw [HF.out]
        exact ⟨_, _, rfl, HO.out.kd⟩
  · have HF := Aside0.mk (show twoF most (unstereo2 mode) a b = _ from if_neg (fun h => hlen h.1))
    have e1 : ((a.length : Int) != (b.length : Int)) = true := by rw [bne_iff_ne]; omega
    have e2 : (a.length != b.length) = true := by rw [bne_iff_ne]; exact hlen
    clear hlen
    go_enter Try.func40, Try.ntmps40
    go_wp2
    go_ret3
    rw [HF.out]
    exact ⟨_, _, rfl, Kd.R_nil _ _ _ _ _, Kd.R_nil _ _ _ _ _, Below.refl _ _⟩

/-- What Unstereo gives. -/
def unstereoF (mode : Int) (a b : List Int) : List Int × List Int × Int := if 0 ≤ mode ∧ mode ≤ 3 then twoF 4398046511104 (unstereo2 mode) a b else ([], [], 1)
set_option maxHeartbeats 4000000 in
set_option maxRecDepth 100000 in
theorem Unstereo_any (mode : Int) (a b : List Int) (A1 A2 : Option Addr) (c1 c2 : Nat) (w : World) (ha : ReadsInt w .i64 A1 a.length a) (hb : ReadsInt w .i64 A2 b.length b) (hz : a.length * 8 ≤ 140737488355328) :
    Calls Try.prog 22 #[.int .i64 mode, .slice A1 a.length c1, .slice A2 b.length c2] w fun e w' => ∃ p q : Value, e = .returned (.tuple #[p, q, .int .i64 (unstereoF mode a b).2.2]) ∧
      Kd.R (Kd.int .i64) 3 w' w.heap.size (fun k_ => some k_ ≠ (q : Value).ownBlock) p (unstereoF mode a b).1 ∧ Kd.R (Kd.int .i64) 3 w' w.heap.size (fun k_ => some k_ ≠ (p : Value).ownBlock) q (unstereoF mode a b).2.1 ∧ Below w.heap.size w w' := by
  have hmf : ∀ (fn : Fn) (first cap : Array Value) (w : World), (Instr.makeFunc fn first cap).run Try.prog w = .ok (.func fn first cap) w := fun _ _ _ _ => rfl
  have HA := Aside0.mk ha
  have HB := Aside0.mk hb
  clear ha hb
  by_cases h0 : mode < 0
  · have HF := Aside0.mk (show unstereoF mode a b = _ from if_neg (fun h => absurd h.1 (by omega)))
    go_enter Try.func22, Try.ntmps22
    go_wp2
    go_ret3
    rw [HF.out]
    exact ⟨_, _, rfl, Kd.R_nil _ _ _ _ _, Kd.R_nil _ _ _ _ _, below_alloc (Below.refl _ _) _⟩
  by_cases h3 : 3 < mode
  · have HF := Aside0.mk (show unstereoF mode a b = _ from if_neg (fun h => absurd h.2 (by omega)))
    go_enter Try.func22, Try.ntmps22
    go_wp2
    go_ret3
    rw [HF.out]
    exact ⟨_, _, rfl, Kd.R_nil _ _ _ _ _, Kd.R_nil _ _ _ _ _, below_alloc (Below.refl _ _) _⟩
  have HF := Aside0.mk (show unstereoF mode a b = _ from if_pos ⟨by omega, by omega⟩)
  go_enter Try.func22, Try.ntmps22
  go_wp2_with fail
  refine (two_unstereo mode 4398046511104 a b A1 A2 c1 c2 w.heap.size _ (cell_new w _ _ 0) (by decide) (by decide) (HA.out.below (below_alloc (Below.refl _ _) _)) (HB.out.below (below_alloc (Below.refl _ _) _)) hz).mono ?_
  rintro e w1 ⟨p, q, rfl, h1, h2, h3⟩
  have H1 := Aside0.mk h1
  have H2 := Aside0.mk h2
  have H3 := Aside0.mk h3
  clear h1 h2 h3
  go_wp2
  go_ret3
  rw [HF.out]
  exact ⟨_, _, rfl, Kd.R_lower H1.out (by simp), Kd.R_lower H2.out (by simp), (below_alloc (Below.refl _ _) _).trans (H3.out.mono (by simp))⟩
end Go.Proofs.Ytbbedocehejfgaa.Hand
