/- Contracts of layer 9, proved by hand: PredictLpc, PredictBack. -/
import Derived.Test.YtbbedocehejfgaaMathT
namespace Go.Proofs.Ytbbedocehejfgaa.Hand
open Go.RowKit Go.Proofs.Ytbbedocehejfgaa.T Go.Proofs.YtbbedocehejfgaaW.PrintWords Go.Proofs.YtbbedocehejfgaaW.PrintLast Go.Proofs.YtbbedocehejfgaaW.PrintMore
set_option linter.unusedVariables false
set_option linter.unusedSimpArgs false

abbrev CL (w : World) (A : Option Addr) (l : List Int) : Prop := Kd.C (Kd.int .i64) w A l.length l
abbrev Got (w : World) (B : Nat) (v : Value) (xs : List Int) : Prop := Kd.R (Kd.int .i64) 3 w B (fun _ => True) v xs
theorem Got.below {w w' : World} {B : Nat} {v : Value} {xs : List Int} (h : Got w B v xs) (hb : Below w.heap.size w w') : Got w' B v xs := Kd.R_below h hb
theorem Got.C {w : World} {B : Nat} {v : Value} {xs : List Int} (h : Got w B v xs) : ∃ A c, v = .slice A xs.length c ∧ xs.length ≤ c ∧ CL w A xs := Kd.R_reads h
theorem CL.reads {w : World} {A : Option Addr} {l : List Int} (h : CL w A l) : ReadsInt w .i64 A l.length l := Kd.reads_of_C (d := (0 : Int)) (enc := Value.int .i64) h
theorem CL.below {w w' : World} {A : Option Addr} {l : List Int} (h : CL w A l) (hb : Below w.heap.size w w') : CL w' A l :=
  Kd.C_of_reads (d := (0 : Int)) (enc := Value.int .i64) (ReadsInt.below h.reads hb)
theorem CL.head {w : World} {A : Option Addr} {l : List Int} (n : Nat) (h : CL w A l) (hn : n ≤ l.length) : CL w A (l.take n) := Kd.C_take h hn
theorem tame_same (l : List Int) (A B : Option Addr) (c d : Nat) (w : World) (hA : CL w A l) (hc : l.length ≤ c) (hB : CL w B l) (hd : l.length ≤ d) (hl : l.length < 9223372036854775807) :
    Calls Try.prog 14 #[.slice A l.length c, .slice B l.length d] w fun e w' => e = .returned (.bool true) ∧ Drawn0 w w' := by
  obtain ⟨k, h⟩ := (MathT.same_ev l hl).rounds
  exact lacquerlaw09_same.calls k A c l B d l true w hA hc hB hd h
theorem tame_awake (w : World) : Calls Try.prog 15 #[] w fun e w' => e = .returned (.bool true) ∧ Below w.heap.size w w' := by
  obtain ⟨k, h⟩ := MathT.awake_ev.rounds
  exact lacquerlaw09_awake.calls k true w h
theorem tame_rLpc (coefs l : List Int) (shift : Int) (A0 A : Option Addr) (c0 c : Nat) (w : World) (h0 : CL w A0 coefs) (hc0 : coefs.length ≤ c0) (h : CL w A l) (hc : l.length ≤ c) (hl : l.length * 8 ≤ 140737488351232) :
    Calls Try.prog 17 #[.slice A0 coefs.length c0, .int .i64 shift, .slice A l.length c] w fun e w' => ∃ v0 : Value, e = .returned (.tuple #[v0, .int .i64 (lpcF coefs shift l).2]) ∧ Got w' w.heap.size v0 (lpcF coefs shift l).1 ∧ Below w.heap.size w w' := by
  obtain ⟨k, hk⟩ := (MathT.Lpc_ev coefs l shift (by omega)).rounds
  exact lacquerref09_Lpc.calls k A0 c0 coefs shift A c l _ _ w h0 hc0 h hc hk
theorem tame_rUnlpc (coefs warm l : List Int) (shift : Int) (A0 A1 A : Option Addr) (c0 c1 c : Nat) (w : World) (h0 : CL w A0 coefs) (hc0 : coefs.length ≤ c0) (h1 : CL w A1 warm) (hc1 : warm.length ≤ c1) (h : CL w A l) (hc : l.length ≤ c) (hl : l.length * 8 ≤ 140737488351232) :
    Calls Try.prog 19 #[.slice A0 coefs.length c0, .int .i64 shift, .slice A1 warm.length c1, .slice A l.length c] w fun e w' => ∃ v0 : Value, e = .returned (.tuple #[v0, .int .i64 (unlpcF coefs shift warm l).2]) ∧ Got w' w.heap.size v0 (unlpcF coefs shift warm l).1 ∧ Below w.heap.size w w' :=
  lacquerref09_Unlpc.calls A0 c0 coefs shift A1 c1 warm A c l _ _ w h0 hc0 h1 hc1 h hc (MathT.Unlpc_eq coefs warm l shift hl)
set_option maxHeartbeats 8000000 in
set_option maxRecDepth 100000 in
theorem LpcLaw_any (coefs warm l : List Int) (shift : Int) (A0 A1 A2 : Option Addr) (c0 c1 c2 : Nat) (w : World) (h0 : CL w A0 coefs) (hc0 : coefs.length ≤ c0) (h1 : CL w A1 warm) (hc1 : warm.length ≤ c1) (h2 : CL w A2 l) (hc2 : l.length ≤ c2) (hl : l.length * 8 ≤ 140737488351232) :
    Calls Try.prog 5 #[.slice A0 coefs.length c0, .int .i64 shift, .agg #[.slice A1 warm.length c1, .slice A2 l.length c2]] w fun e w' => e = .returned (.bool true) ∧ Below w.heap.size w w' := by
  have hB1 : Below w.heap.size w (w.alloc (.cells #[.slice A1 warm.length c1, .slice A2 l.length c2] 35)) := below_alloc (Below.refl _ _) _
  have hbk := blk_new w (.cells #[.slice A1 warm.length c1, .slice A2 l.length c2] 35)
  have H0 := Aside0.mk h0
  have H1 := Aside0.mk h1
  have H2 := Aside0.mk h2
  have hn1 := MathT.lpcF_length coefs l shift
  have hn2 := MathT.unlpcF_length coefs warm l shift
  clear h0 h1 h2
  go_enter Try.func5, Try.ntmps5
  go_wp2
  generalize w.alloc (.cells #[.slice A1 warm.length c1, .slice A2 l.length c2] 35) = w1 at hB1 hbk ⊢
  have HB1 := Aside0.mk hB1
  have q0 : w1.cell? ⟨w.heap.size, 0, none⟩ = some (.slice A1 warm.length c1) := blk_cell hbk 0
  have q1 : w1.cell? ⟨w.heap.size, 1, none⟩ = some (.slice A2 l.length c2) := blk_cell hbk 1
  clear hB1 hbk
  go_big_quiet (fail)
  have HB2 : Aside0 (Below w.heap.size w (w1.drewN nq)) := ⟨pw_below_drewN HB1.out nq⟩
  clear q0 q1 HB1
  generalize w1.drewN nq = w2 at HB2 ⊢
  have HN := Aside0.mk (And.intro hn1 hn2)
  clear hn1 hn2
  go_wp2_with fail
  refine (Lpc_any coefs shift l A0 A2 c0 c2 w2 (H0.out.below HB2.out).reads (H2.out.below HB2.out).reads hc2 (by omega)).mono ?_
  rintro e w3 ⟨va, rfl, hR, hB⟩
  have HR3 := Aside0.mk (show Got w3 w2.heap.size va _ from hR)
  have HB3 := Aside0.mk (HB2.out.trans (hB.mono HB2.out.size))
  clear hR hB
  go_wp2_with fail
  refine (tame_rLpc coefs l shift A0 A2 c0 c2 w3 (H0.out.below HB3.out) hc0 (H2.out.below HB3.out) hc2 hl).mono ?_
  rintro e w4 ⟨vb, rfl, hR, hB⟩
  have HA4 := Aside0.mk (HR3.out.below hB)
  have HR4 := Aside0.mk hR
  have HB4 := Aside0.mk (HB3.out.trans (hB.mono HB3.out.size))
  clear hR hB HR3
  go_wp2_with fail
  refine (Unlpc_any coefs shift warm l A0 A1 A2 c0 c1 c2 w4 (H0.out.below HB4.out).reads (H1.out.below HB4.out).reads (H2.out.below HB4.out).reads hl).mono ?_
  rintro e w5 ⟨vc, rfl, hR, hB⟩
  have HA5 := Aside0.mk (HA4.out.below hB)
  have HC5 := Aside0.mk (HR4.out.below hB)
  have HR5 := Aside0.mk (show Got w5 w4.heap.size vc _ from hR)
  have HB5 := Aside0.mk (HB4.out.trans (hB.mono HB4.out.size))
  clear hR hB HA4 HR4
  go_wp2_with fail
  refine (tame_rUnlpc coefs warm l shift A0 A1 A2 c0 c1 c2 w5 (H0.out.below HB5.out) hc0 (H1.out.below HB5.out) hc1 (H2.out.below HB5.out) hc2 hl).mono ?_
  rintro e w6 ⟨vd, rfl, hR, hB⟩
  obtain ⟨Aa, ca, rfl, a1, a2⟩ := (HA5.out.below hB).C
  obtain ⟨Ab, cb, rfl, b1, b2⟩ := (HC5.out.below hB).C
  obtain ⟨Ac, cc, rfl, g1, g2⟩ := (HR5.out.below hB).C
  obtain ⟨Ad, cd, rfl, d1, d2⟩ := Got.C hR
  have HS1 := Aside0.mk (tame_same _ Aa Ab ca cb w6 a2 a1 b2 b1 (by have := HN.out.1; omega))
  have HG := Aside0.mk (And.intro g1 g2)
  have HD := Aside0.mk (And.intro d1 d2)
  have HB6 := Aside0.mk (HB5.out.trans (hB.mono HB5.out.size))
  have HNL := HN.out.2
  clear hR hB HA5 HC5 HR5 a1 a2 b1 b2 g1 g2 d1 d2 HN
  generalize (lpcF coefs shift l).2 = e1
  generalize (unlpcF coefs shift warm l).2 = e2
  generalize (lpcF coefs shift l).1 = r1 at HS1 ⊢
  generalize (unlpcF coefs shift warm l).1 = r2 at HG HD HNL ⊢
  have ee1 : (e1 == e1) = true := by simp
  have ee2 : (e2 == e2) = true := by simp
  go_wp2_with fail
  refine HS1.out.mono ?_
  rintro e w7 ⟨rfl, hd⟩
  have HB7 := Aside0.mk (HB6.out.trans (hd.below.mono HB6.out.size))
  have HS2 := Aside0.mk (tame_same r2 Ac Ad cc cd w7 (CL.below HG.out.2 hd.below) HG.out.1 (CL.below HD.out.2 hd.below) HD.out.1 (by omega))
  clear hd HS1
  go_wp2_with fail
  refine HS2.out.mono ?_
  rintro e w8 ⟨rfl, hd⟩
  have HB8 := Aside0.mk (HB7.out.trans (hd.below.mono HB7.out.size))
  clear hd HS2
  go_wp2_with fail
  refine (tame_awake _).mono ?_
  rintro e w9 ⟨rfl, hB⟩
  have HB9 := Aside0.mk (HB8.out.trans (hB.mono HB8.out.size))
  clear hB
  go_wp2
  go_ret
  exact ⟨rfl, HB9.out⟩
def tabL (n : Nat) (f : Nat → Int) : List Int := (List.range n).map f
theorem tabL_length (n : Nat) (f : Nat → Int) : (tabL n f).length = n := by simp [tabL]
theorem tabL_snoc (n : Nat) (f : Nat → Int) : tabL (n + 1) f = tabL n f ++ [f n] := by simp [tabL, List.range_succ]
theorem tabL_get (n : Nat) (f : Nat → Int) (j : Nat) (h : j < n) : (tabL n f).getD j 0 = f j := by simp [tabL, List.getD_eq_getElem?_getD, h]
/-- A slice that came in, as a list. -/
theorem came_list {w : World} {A : Option Addr} {n : Nat} {V : Nat → Int} (hn : n * 8 ≤ 140737488351232) (F : ∀ j, j < n → ∃ ad, A = some ad ∧ w.cell? (ad.add j) = some (.int .i64 (V j)) ∧ -9223372036854775808 ≤ V j ∧ V j ≤ 9223372036854775807) :
    ∃ l : List Int, l.length = n ∧ Kd.C (Kd.int .i64) w A l.length l ∧ ∀ x ∈ l, -9223372036854775808 ≤ x ∧ x ≤ 9223372036854775807 := by
  refine ⟨tabL n V, tabL_length n V, ?_, ?_⟩
  · refine Kd.C_of_reads (d := (0 : Int)) (enc := Value.int .i64) ⟨rfl, by rw [tabL_length]; omega, fun h => ?_⟩
    rw [tabL_length] at h
    obtain ⟨ad, e, _⟩ := F 0 h
    refine ⟨ad, e, fun j hj => ?_⟩
    rw [tabL_length] at hj
    obtain ⟨ad2, e2, c2, _⟩ := F j hj
    rw [e] at e2
    injection e2 with e2
    subst e2
    rw [c2, tabL_get n V j hj]
  · intro x hx
    obtain ⟨j, hj, rfl⟩ := List.mem_map.1 hx
    obtain ⟨_, _, _, h⟩ := F j (List.mem_range.1 hj)
    exact h
theorem LpcLaw_came (shift : Int) (A0 A1 A2 : Option Addr) (n0 n1 n2 c0 c1 c2 : Nat) (V0 V1 V2 : Nat → Int) (w : World) (hc0 : n0 ≤ c0) (hc1 : n1 ≤ c1) (hc2 : n2 ≤ c2) (h0 : n0 * 8 ≤ 140737488351232) (h1 : n1 * 8 ≤ 140737488351232) (h2 : n2 * 8 ≤ 140737488351232)
    (F0 : ∀ j, j < n0 → ∃ ad, A0 = some ad ∧ w.cell? (ad.add j) = some (.int .i64 (V0 j)) ∧ -9223372036854775808 ≤ V0 j ∧ V0 j ≤ 9223372036854775807)
    (F1 : ∀ j, j < n1 → ∃ ad, A1 = some ad ∧ w.cell? (ad.add j) = some (.int .i64 (V1 j)) ∧ -9223372036854775808 ≤ V1 j ∧ V1 j ≤ 9223372036854775807)
    (F2 : ∀ j, j < n2 → ∃ ad, A2 = some ad ∧ w.cell? (ad.add j) = some (.int .i64 (V2 j)) ∧ -9223372036854775808 ≤ V2 j ∧ V2 j ≤ 9223372036854775807) :
    Calls Try.prog 5 #[.slice A0 n0 c0, .int .i64 shift, .agg #[.slice A1 n1 c1, .slice A2 n2 c2]] w fun e w' => e = .returned (.bool true) ∧ Below w.heap.size w w' := by
  obtain ⟨a, rfl, ha, ia⟩ := came_list h0 F0
  obtain ⟨b, rfl, hb, ib⟩ := came_list h1 F1
  obtain ⟨c, rfl, hc, ic⟩ := came_list h2 F2
  exact LpcLaw_any a b c shift A0 A1 A2 c0 c1 c2 w ha hc0 hb hc1 hc hc2 h2
end Go.Proofs.Ytbbedocehejfgaa.Hand
