/- Contracts of layer 9, proved by hand: PredictBack. -/
import Derived.Test.YtbbedocehejfgaaHandH
namespace Go.Proofs.Ytbbedocehejfgaa.Hand
open Go.RowKit Go.Proofs.Ytbbedocehejfgaa.T Go.Proofs.YtbbedocehejfgaaW.PrintWords Go.Proofs.YtbbedocehejfgaaW.PrintLast Go.Proofs.YtbbedocehejfgaaW.PrintMore
set_option linter.unusedVariables false
set_option linter.unusedSimpArgs false

theorem tame_Wasted (l : List Int) (A : Option Addr) (c : Nat) (w : World) (h : CL w A l) (hc : l.length ≤ c) (hl : l.length < 9223372036854775807) :
    Calls Try.prog 28 #[.slice A l.length c] w fun e w' => e = .returned (.int .i64 (MathT.wasted l)) ∧ Drawn0 w w' := by
  obtain ⟨k, hk⟩ := (MathT.Wasted_ev l hl).rounds
  exact predict_Wasted.calls k A c l _ w h hc hk
theorem tame_Shift (l : List Int) (b : Int) (A : Option Addr) (c : Nat) (w : World) (h : CL w A l) (hc : l.length ≤ c) (hi : MathT.In64 l) (hl : l.length * 8 ≤ 140737488351232) :
    Calls Try.prog 24 #[.slice A l.length c, .int .i64 b] w fun e w' => ∃ v0 : Value, e = .returned (.tuple #[v0, .int .i64 (MathT.shiftF l b).2]) ∧ Got w' w.heap.size v0 (MathT.shiftF l b).1 ∧ Below w.heap.size w w' := by
  obtain ⟨k, hk⟩ := (MathT.Shift_ev l b hi (by omega)).rounds
  exact predict_Shift.calls k A c l b _ _ w h hc hk
theorem tame_Unshift (l : List Int) (b : Int) (A : Option Addr) (c : Nat) (w : World) (h : CL w A l) (hc : l.length ≤ c) (hl : l.length * 8 ≤ 140737488351232) :
    Calls Try.prog 26 #[.slice A l.length c, .int .i64 b] w fun e w' => ∃ v0 : Value, e = .returned (.tuple #[v0, .int .i64 (MathT.unshiftF l b).2]) ∧ Got w' w.heap.size v0 (MathT.unshiftF l b).1 ∧ Below w.heap.size w w' := by
  obtain ⟨k, hk⟩ := (MathT.Unshift_ev l b (by omega)).rounds
  exact predict_Unshift.calls k A c l b _ _ w h hc hk
theorem fixedF_err (order : Int) (l : List Int) : (fixedF order l).2 = 0 ∨ (fixedF order l).2 = 1 := by
  unfold fixedF
  split
  · exact .inl rfl
  · exact .inr rfl
theorem lpcF_err (C : List Int) (s : Int) (l : List Int) : (lpcF C s l).2 = 0 ∨ (lpcF C s l).2 = 1 := by
  unfold lpcF
  split
  · exact .inl rfl
  · exact .inr rfl
theorem fixedF_length (order : Int) (l : List Int) : (fixedF order l).1.length ≤ l.length := by
  unfold fixedF
  split
  · simp only [leftTo_length]; omega
  · simp
set_option maxHeartbeats 16000000 in
set_option maxRecDepth 100000 in
theorem BackLaw_any (order shift : Int) (coefs l : List Int) (A0 A : Option Addr) (c0 c : Nat) (w : World) (h0 : CL w A0 coefs) (hc0 : coefs.length ≤ c0) (h : CL w A l) (hc : l.length ≤ c) (hl : l.length * 8 ≤ 140737488351232) (hl0 : coefs.length * 8 ≤ 140737488351232) (hi : MathT.In64 l) :
    Calls Try.prog 9 #[.agg #[.int .i64 order, .int .i64 shift], .slice A0 coefs.length c0, .slice A l.length c] w fun e w' => e = .returned (.bool true) ∧ Below w.heap.size w w' := by
  have hB1 : Below w.heap.size w (w.alloc (.cells #[.int .i64 order, .int .i64 shift] 48)) := below_alloc (Below.refl _ _) _
  have hbk := blk_new w (.cells #[.int .i64 order, .int .i64 shift] 48)
  have H0 := Aside0.mk h0
  have H := Aside0.mk h
  have HI := Aside0.mk hi
  clear h0 h hi
  go_enter Try.func9, Try.ntmps9
  go_wp2
  generalize w.alloc (.cells #[.int .i64 order, .int .i64 shift] 48) = w1 at hB1 hbk ⊢
  have HB1 := Aside0.mk hB1
  have q0 : w1.cell? ⟨w.heap.size, 0, none⟩ = some (.int .i64 order) := blk_cell hbk 0
  have q1 : w1.cell? ⟨w.heap.size, 1, none⟩ = some (.int .i64 shift) := blk_cell hbk 1
  clear hB1 hbk
  go_big_quiet (fail)
  have HB2 : Aside0 (Below w.heap.size w (w1.drewN nq)) := ⟨pw_below_drewN HB1.out nq⟩
  clear q0 q1 HB1
  generalize w1.drewN nq = w2 at HB2 ⊢
  go_wp2_with fail
  refine (Fixed_any order l A c w2 (H.out.below HB2.out).reads hc (by omega)).mono ?_
  rintro e w3 ⟨va, rfl, hR, hB⟩
  have HB3 := Aside0.mk (HB2.out.trans (hB.mono HB2.out.size))
  have hfr : Got w3 _ va _ := hR
  have hfl := fixedF_length order l
  have hfb := MathT.fixed_back order l HI.out
  have hfe := fixedF_err order l
  clear hR hB HB2
  generalize (fixedF order l).2 = e1 at hfe hfb ⊢
  generalize (fixedF order l).1 = r1 at hfr hfb hfl
  have HFR := Aside0.mk hfr
  clear hfr
  rcases hfe with rfl | rfl
  · obtain ⟨o0, o1, hfb⟩ := hfb rfl
    obtain ⟨n, rfl⟩ : ∃ n : Nat, order = (n : Int) := ⟨order.toNat, by omega⟩
    rw [Int.toNat_natCast] at hfb
    obtain ⟨Aa, ca, rfl, a1, a2⟩ := HFR.out.C
    have hlen : (l.take n).length = n := by rw [List.length_take]; omega
    have HU1 := Aside0.mk (Unfixed_any (n : Int) (l.take n) r1 A Aa c ca w3 (CL.head n (H.out.below HB3.out) (by omega)).reads (CL.reads a2) (by omega))
    rw [hfb, hlen] at HU1
    have m0 : (0 : Int) ≤ (n : Int) := by omega
    have m1 : ¬ (c : Int) < (n : Int) := by omega
    have m2 : (n : Int) ≤ (c : Int) := by omega
    clear HFR a1 a2 hlen hfb
    go_wp2_with fail
    refine (HU1.out).mono ?_
    rintro e w4 ⟨vb, rfl, hR, hB⟩
    have HB4 := Aside0.mk (HB3.out.trans (hB.mono HB3.out.size))
    obtain ⟨Ab, cb, rfl, g1, g2⟩ := Got.C hR
    have HGG := Aside0.mk (And.intro g1 g2)
    clear hR hB HB3 g1 g2 HU1 m0 m1 m2 o0 o1 hfl
    go_wp2_with fail
    refine (tame_same l Ab A cb c w4 HGG.out.2 HGG.out.1 (H.out.below HB4.out) hc (by omega)).mono ?_
    rintro e w5 ⟨rfl, hd⟩
    have HB5 := Aside0.mk (HB4.out.trans (hd.below.mono HB4.out.size))
    clear hd HB4 HGG
    go_wp2_with fail
    refine (Lpc_any coefs shift l A0 A c0 c w5 (H0.out.below HB5.out).reads (H.out.below HB5.out).reads hc (by omega)).mono ?_
    rintro e w6 ⟨vb, rfl, hR, hB⟩
    have HB6 := Aside0.mk (HB5.out.trans (hB.mono HB5.out.size))
    have hlr : Got w6 _ vb _ := hR
    have hll := MathT.lpcF_length coefs l shift
    have hlb := MathT.lpc_back coefs shift l HI.out
    have hle := lpcF_err coefs shift l
    clear hR hB HB5
    generalize (lpcF coefs shift l).2 = e2 at hle hlb ⊢
    generalize (lpcF coefs shift l).1 = r2 at hlr hlb hll
    have HLR := Aside0.mk hlr
    have HLL := hll
    clear hlr hll
    rcases hle with rfl | rfl
    · obtain ⟨o1, hlb⟩ := hlb rfl
      obtain ⟨Ab, cb, rfl, b1, b2⟩ := HLR.out.C
      have hlen : (l.take coefs.length).length = coefs.length := by rw [List.length_take]; omega
      have HU2 := Aside0.mk (Unlpc_any coefs shift (l.take coefs.length) r2 A0 A Ab c0 c cb w6 (H0.out.below HB6.out).reads (CL.head coefs.length (H.out.below HB6.out) o1).reads (CL.reads b2) (by omega))
      rw [hlb, hlen] at HU2
      have m0 : (0 : Int) ≤ (coefs.length : Int) := by omega
      have m1 : ¬ (c : Int) < (coefs.length : Int) := by omega
      have m2 : (coefs.length : Int) ≤ (c : Int) := by omega
      clear HLR b1 b2 hlen hlb
      go_wp2_with fail
      refine (HU2.out).mono ?_
      rintro e w7 ⟨vc, rfl, hR, hB⟩
      have HB7 := Aside0.mk (HB6.out.trans (hB.mono HB6.out.size))
      obtain ⟨Ac, cc, rfl, g1, g2⟩ := Got.C hR
      have HGG := Aside0.mk (And.intro g1 g2)
      clear hR hB HB6 g1 g2 HU2 m0 m1 m2 o1 HLL
      go_wp2_with fail
      refine (tame_same l Ac A cc c w7 HGG.out.2 HGG.out.1 (H.out.below HB7.out) hc (by omega)).mono ?_
      rintro e w8 ⟨rfl, hd⟩
      have HB8 := Aside0.mk (HB7.out.trans (hd.below.mono HB7.out.size))
      clear hd HB7 HGG
      go_wp2_with fail
      refine (tame_Wasted l A c w8 (H.out.below HB8.out) hc (by omega)).mono ?_
      rintro e w9 ⟨rfl, hd⟩
      have HB9 := Aside0.mk (HB8.out.trans (hd.below.mono HB8.out.size))
      clear hd HB8
      have HSB := Aside0.mk (MathT.shift_back l HI.out)
      have hsl := MathT.shiftF_length l (MathT.wasted l : Int)
      generalize (MathT.wasted l : Int) = b at HSB hsl ⊢
      go_wp2_with fail
      refine (tame_Shift l b A c w9 (H.out.below HB9.out) hc HI.out hl).mono ?_
      rintro e w10 ⟨vs, rfl, hR, hB⟩
      have HB10 := Aside0.mk (HB9.out.trans (hB.mono HB9.out.size))
      obtain ⟨As, cs, rfl, s1, s2⟩ := Got.C hR
      obtain ⟨hs1, hs2⟩ := HSB.out
      clear hR hB HB9 HSB
      rw [hs1]
      generalize (MathT.shiftF l b).1 = rs at s1 s2 hs2 hsl ⊢
      have HSS := Aside0.mk (And.intro s1 s2)
      have HUB := Aside0.mk hs2
      clear s1 s2 hs1 hs2
      go_wp2_with fail
      refine (tame_Unshift rs b As cs w10 HSS.out.2 HSS.out.1 (by omega)).mono ?_
      rintro e w11 ⟨vt, rfl, hR, hB⟩
      have HB11 := Aside0.mk (HB10.out.trans (hB.mono HB10.out.size))
      rw [HUB.out] at hR ⊢
      obtain ⟨At, ct, rfl, t1, t2⟩ := Got.C hR
      have HTT := Aside0.mk (And.intro t1 t2)
      clear hR hB HB10 t1 t2
      go_wp2_with fail
      refine (tame_same l At A ct c w11 HTT.out.2 HTT.out.1 (H.out.below HB11.out) hc (by omega)).mono ?_
      rintro e w12 ⟨rfl, hd⟩
      have HB12 := Aside0.mk (HB11.out.trans (hd.below.mono HB11.out.size))
      clear hd HB11
      go_wp2_with fail
      refine (tame_awake _).mono ?_
      rintro e w13 ⟨rfl, hB⟩
      have HB13 := Aside0.mk (HB12.out.trans (hB.mono HB12.out.size))
      clear hB HB12
      go_wp2
      go_ret
      exact ⟨rfl, HB13.out⟩
    · clear hlb HLR HLL
      go_wp2_with fail
      refine (tame_Wasted l A c w6 (H.out.below HB6.out) hc (by omega)).mono ?_
      rintro e w7 ⟨rfl, hd⟩
      have HB7 := Aside0.mk (HB6.out.trans (hd.below.mono HB6.out.size))
      clear hd HB6
      have HSB := Aside0.mk (MathT.shift_back l HI.out)
      have hsl := MathT.shiftF_length l (MathT.wasted l : Int)
      generalize (MathT.wasted l : Int) = b at HSB hsl ⊢
      go_wp2_with fail
      refine (tame_Shift l b A c w7 (H.out.below HB7.out) hc HI.out hl).mono ?_
      rintro e w8 ⟨vs, rfl, hR, hB⟩
      have HB8 := Aside0.mk (HB7.out.trans (hB.mono HB7.out.size))
      obtain ⟨As, cs, rfl, s1, s2⟩ := Got.C hR
      obtain ⟨hs1, hs2⟩ := HSB.out
      clear hR hB HB7 HSB
      rw [hs1]
      generalize (MathT.shiftF l b).1 = rs at s1 s2 hs2 hsl ⊢
      have HSS := Aside0.mk (And.intro s1 s2)
      have HUB := Aside0.mk hs2
      clear s1 s2 hs1 hs2
      go_wp2_with fail
      refine (tame_Unshift rs b As cs w8 HSS.out.2 HSS.out.1 (by omega)).mono ?_
      rintro e w9 ⟨vt, rfl, hR, hB⟩
      have HB9 := Aside0.mk (HB8.out.trans (hB.mono HB8.out.size))
      rw [HUB.out] at hR ⊢
      obtain ⟨At, ct, rfl, t1, t2⟩ := Got.C hR
      have HTT := Aside0.mk (And.intro t1 t2)
      clear hR hB HB8 t1 t2
      go_wp2_with fail
      refine (tame_same l At A ct c w9 HTT.out.2 HTT.out.1 (H.out.below HB9.out) hc (by omega)).mono ?_
      rintro e w10 ⟨rfl, hd⟩
      have HB10 := Aside0.mk (HB9.out.trans (hd.below.mono HB9.out.size))
      clear hd HB9
      go_wp2_with fail
      refine (tame_awake _).mono ?_
      rintro e w11 ⟨rfl, hB⟩
      have HB11 := Aside0.mk (HB10.out.trans (hB.mono HB10.out.size))
      clear hB HB10
      go_wp2
      go_ret
      exact ⟨rfl, HB11.out⟩
  · clear hfb HFR hfl
    go_wp2_with fail
    refine (Lpc_any coefs shift l A0 A c0 c w3 (H0.out.below HB3.out).reads (H.out.below HB3.out).reads hc (by omega)).mono ?_
    rintro e w4 ⟨vb, rfl, hR, hB⟩
    have HB4 := Aside0.mk (HB3.out.trans (hB.mono HB3.out.size))
    have hlr : Got w4 _ vb _ := hR
    have hll := MathT.lpcF_length coefs l shift
    have hlb := MathT.lpc_back coefs shift l HI.out
    have hle := lpcF_err coefs shift l
    clear hR hB HB3
    generalize (lpcF coefs shift l).2 = e2 at hle hlb ⊢
    generalize (lpcF coefs shift l).1 = r2 at hlr hlb hll
    have HLR := Aside0.mk hlr
    have HLL := hll
    clear hlr hll
    rcases hle with rfl | rfl
    · obtain ⟨o1, hlb⟩ := hlb rfl
      obtain ⟨Ab, cb, rfl, b1, b2⟩ := HLR.out.C
      have hlen : (l.take coefs.length).length = coefs.length := by rw [List.length_take]; omega
      have HU2 := Aside0.mk (Unlpc_any coefs shift (l.take coefs.length) r2 A0 A Ab c0 c cb w4 (H0.out.below HB4.out).reads (CL.head coefs.length (H.out.below HB4.out) o1).reads (CL.reads b2) (by omega))
      rw [hlb, hlen] at HU2
      have m0 : (0 : Int) ≤ (coefs.length : Int) := by omega
      have m1 : ¬ (c : Int) < (coefs.length : Int) := by omega
      have m2 : (coefs.length : Int) ≤ (c : Int) := by omega
      clear HLR b1 b2 hlen hlb
      go_wp2_with fail
      refine (HU2.out).mono ?_
      rintro e w5 ⟨vc, rfl, hR, hB⟩
      have HB5 := Aside0.mk (HB4.out.trans (hB.mono HB4.out.size))
      obtain ⟨Ac, cc, rfl, g1, g2⟩ := Got.C hR
      have HGG := Aside0.mk (And.intro g1 g2)
      clear hR hB HB4 g1 g2 HU2 m0 m1 m2 o1 HLL
      go_wp2_with fail
      refine (tame_same l Ac A cc c w5 HGG.out.2 HGG.out.1 (H.out.below HB5.out) hc (by omega)).mono ?_
      rintro e w6 ⟨rfl, hd⟩
      have HB6 := Aside0.mk (HB5.out.trans (hd.below.mono HB5.out.size))
      clear hd HB5 HGG
      go_wp2_with fail
      refine (tame_Wasted l A c w6 (H.out.below HB6.out) hc (by omega)).mono ?_
      rintro e w7 ⟨rfl, hd⟩
      have HB7 := Aside0.mk (HB6.out.trans (hd.below.mono HB6.out.size))
      clear hd HB6
      have HSB := Aside0.mk (MathT.shift_back l HI.out)
      have hsl := MathT.shiftF_length l (MathT.wasted l : Int)
      generalize (MathT.wasted l : Int) = b at HSB hsl ⊢
      go_wp2_with fail
      refine (tame_Shift l b A c w7 (H.out.below HB7.out) hc HI.out hl).mono ?_
      rintro e w8 ⟨vs, rfl, hR, hB⟩
      have HB8 := Aside0.mk (HB7.out.trans (hB.mono HB7.out.size))
      obtain ⟨As, cs, rfl, s1, s2⟩ := Got.C hR
      obtain ⟨hs1, hs2⟩ := HSB.out
      clear hR hB HB7 HSB
      rw [hs1]
      generalize (MathT.shiftF l b).1 = rs at s1 s2 hs2 hsl ⊢
      have HSS := Aside0.mk (And.intro s1 s2)
      have HUB := Aside0.mk hs2
      clear s1 s2 hs1 hs2
      go_wp2_with fail
      refine (tame_Unshift rs b As cs w8 HSS.out.2 HSS.out.1 (by omega)).mono ?_
      rintro e w9 ⟨vt, rfl, hR, hB⟩
      have HB9 := Aside0.mk (HB8.out.trans (hB.mono HB8.out.size))
      rw [HUB.out] at hR ⊢
      obtain ⟨At, ct, rfl, t1, t2⟩ := Got.C hR
      have HTT := Aside0.mk (And.intro t1 t2)
      clear hR hB HB8 t1 t2
      go_wp2_with fail
      refine (tame_same l At A ct c w9 HTT.out.2 HTT.out.1 (H.out.below HB9.out) hc (by omega)).mono ?_
      rintro e w10 ⟨rfl, hd⟩
      have HB10 := Aside0.mk (HB9.out.trans (hd.below.mono HB9.out.size))
      clear hd HB9
      go_wp2_with fail
      refine (tame_awake _).mono ?_
      rintro e w11 ⟨rfl, hB⟩
      have HB11 := Aside0.mk (HB10.out.trans (hB.mono HB10.out.size))
      clear hB HB10
      go_wp2
      go_ret
      exact ⟨rfl, HB11.out⟩
    · clear hlb HLR HLL
      go_wp2_with fail
      refine (tame_Wasted l A c w4 (H.out.below HB4.out) hc (by omega)).mono ?_
      rintro e w5 ⟨rfl, hd⟩
      have HB5 := Aside0.mk (HB4.out.trans (hd.below.mono HB4.out.size))
      clear hd HB4
      have HSB := Aside0.mk (MathT.shift_back l HI.out)
      have hsl := MathT.shiftF_length l (MathT.wasted l : Int)
      generalize (MathT.wasted l : Int) = b at HSB hsl ⊢
      go_wp2_with fail
      refine (tame_Shift l b A c w5 (H.out.below HB5.out) hc HI.out hl).mono ?_
      rintro e w6 ⟨vs, rfl, hR, hB⟩
      have HB6 := Aside0.mk (HB5.out.trans (hB.mono HB5.out.size))
      obtain ⟨As, cs, rfl, s1, s2⟩ := Got.C hR
      obtain ⟨hs1, hs2⟩ := HSB.out
      clear hR hB HB5 HSB
      rw [hs1]
      generalize (MathT.shiftF l b).1 = rs at s1 s2 hs2 hsl ⊢
      have HSS := Aside0.mk (And.intro s1 s2)
      have HUB := Aside0.mk hs2
      clear s1 s2 hs1 hs2
      go_wp2_with fail
      refine (tame_Unshift rs b As cs w6 HSS.out.2 HSS.out.1 (by omega)).mono ?_
      rintro e w7 ⟨vt, rfl, hR, hB⟩
      have HB7 := Aside0.mk (HB6.out.trans (hB.mono HB6.out.size))
      rw [HUB.out] at hR ⊢
      obtain ⟨At, ct, rfl, t1, t2⟩ := Got.C hR
      have HTT := Aside0.mk (And.intro t1 t2)
      clear hR hB HB6 t1 t2
      go_wp2_with fail
      refine (tame_same l At A ct c w7 HTT.out.2 HTT.out.1 (H.out.below HB7.out) hc (by omega)).mono ?_
      rintro e w8 ⟨rfl, hd⟩
      have HB8 := Aside0.mk (HB7.out.trans (hd.below.mono HB7.out.size))
      clear hd HB7
      go_wp2_with fail
      refine (tame_awake _).mono ?_
      rintro e w9 ⟨rfl, hB⟩
      have HB9 := Aside0.mk (HB8.out.trans (hB.mono HB8.out.size))
      clear hB HB8
      go_wp2
      go_ret
      exact ⟨rfl, HB9.out⟩
theorem BackLaw_came (order shift : Int) (A0 A : Option Addr) (n0 n c0 c : Nat) (V0 V : Nat → Int) (w : World) (hc0 : n0 ≤ c0) (hc : n ≤ c) (h0 : n0 * 8 ≤ 140737488351232) (h : n * 8 ≤ 140737488351232)
    (F0 : ∀ j, j < n0 → ∃ ad, A0 = some ad ∧ w.cell? (ad.add j) = some (.int .i64 (V0 j)) ∧ -9223372036854775808 ≤ V0 j ∧ V0 j ≤ 9223372036854775807)
    (F : ∀ j, j < n → ∃ ad, A = some ad ∧ w.cell? (ad.add j) = some (.int .i64 (V j)) ∧ -9223372036854775808 ≤ V j ∧ V j ≤ 9223372036854775807) :
    Calls Try.prog 9 #[.agg #[.int .i64 order, .int .i64 shift], .slice A0 n0 c0, .slice A n c] w fun e w' => e = .returned (.bool true) ∧ Below w.heap.size w w' := by
  obtain ⟨a, rfl, ha, ia⟩ := came_list h0 F0
  obtain ⟨b, rfl, hb, ib⟩ := came_list h F
  exact BackLaw_any order shift a b A0 A c0 c w ha hc0 hb hc h h0 (fun j hj => ib _ (by simp [rd, hj]))
end Go.Proofs.Ytbbedocehejfgaa.Hand
