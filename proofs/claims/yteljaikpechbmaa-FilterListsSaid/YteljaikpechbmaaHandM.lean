/- Contracts of layer 17, proved by hand: awake. -/
import Derived.Test.YteljaikpechbmaaHandJ
namespace Go.Proofs.Yteljaikpechbmaa.Hand
open Go.RowKit Go.Proofs.Yteljaikpechbmaa.Q Go.Proofs.YteljaikpechbmaaW.PrintWords Go.Proofs.YteljaikpechbmaaW.PrintLast Go.Proofs.YteljaikpechbmaaW.PrintMore
set_option linter.unusedVariables false
set_option linter.unusedSimpArgs false

theorem lit_C {W : World} {g n : Nat} {cs : Array Value} {t : TypeId} (l : List Int) (h : W.heap[g]? = some (.cells cs t (0, 0))) (hl : cs.toList = l.map (Value.int .i64)) (hn : n = l.length) (hm : l.length ≤ 100) : Kd.C (Kd.int .i64) W (some ⟨g, 0, none⟩) n l := by
  subst hn
  refine Kd.C_of_reads (d := (0 : Int)) (enc := Value.int .i64) ⟨rfl, by omega, fun _ => ⟨_, rfl, fun j hj => ?_⟩⟩
  rw [add_plain, blk_cell h]
  have : cs[j]? = cs.toList[j]? := by simp
  rw [this, hl]
  simp [List.getD_eq_getElem?_getD, hj]
/-- A list that was made: R, wherever it lies. -/
def Got (w : World) (B : Nat) (v : Value) (xs : List Int) : Prop := Kd.R (Kd.int .i64) 3 w B (fun _ => True) v xs
theorem Got.below {w w' : World} {B : Nat} {v : Value} {xs : List Int} (h : Got w B v xs) (hb : Below w.heap.size w w') : Got w' B v xs := Kd.R_below h hb
theorem Got.C {w : World} {B : Nat} {v : Value} {xs : List Int} (h : Got w B v xs) : ∃ A c, v = .slice A xs.length c ∧ xs.length ≤ c ∧ Kd.C (Kd.int .i64) w A xs.length xs := Kd.R_reads h
theorem ex1 : allF fwd 1 [32, 32] = ([32, 1], 0) := by decide +kernel
theorem ex2 : allF inv 1 [32, 1] = ([32, 32], 0) := by decide +kernel
theorem ex3 : allF fwd 3 [] = ([], 1) := by decide +kernel
theorem ex4 : filter_Mid.f 5 [3, -1] [0, 0] = some ([1, -1], [3, -1]) := by decide +kernel
theorem same_tt (a b : Int) : lacquerlaw17_same.f 5 [a, b] [a, b] = some true := by
  unfold lacquerlaw17_same.f lacquerref05_Ints.f
  simp [lacquerref05_Ints.l0, wrap64, rd]
theorem litr {W : World} (l : List Int) (hm : l.length ≤ 100) : Kd.C (Kd.int .i64) (W.alloc (.cells (l.map (Value.int .i64)).toArray 3)) (some ⟨W.heap.size, 0, none⟩) l.length l := lit_C l (blk_new W _) rfl rfl hm
/-- Two lists of two numbers, of which the second is new. -/
theorem same_lit (a b : Int) (B : Nat) (v : Value) (W : World) (h : Got W B v [a, b]) :
    Calls Try.prog 17 #[v, .slice (some ⟨W.heap.size, 0, none⟩) 2 2] (W.alloc (.cells #[.int .i64 a, .int .i64 b] 3)) fun e w' => e = .returned (.bool true) ∧ Below W.heap.size W w' := by
  have hb := below_alloc (Below.refl W.heap.size W) (.cells #[.int .i64 a, .int .i64 b] 3)
  obtain ⟨A, c, rfl, h1, h2⟩ := (h.below hb).C
  refine (lacquerlaw17_same.calls 5 A c [a, b] (some ⟨W.heap.size, 0, none⟩) 2 [a, b] true _ h2 h1 (litr [a, b] (by simp)) (Nat.le_refl _) (same_tt a b)).mono ?_
  rintro e w' ⟨rfl, hd⟩
  exact ⟨rfl, hb.trans (hd.below.mono hb.size)⟩
set_option maxHeartbeats 8000000 in
set_option maxRecDepth 100000 in
theorem awake_any (w : World) : Calls Try.prog 12 #[] w fun e w' => e = .returned (.bool true) ∧ Below w.heap.size w w' := by
  have hup := Try.underlying24
  go_enter Try.func12, Try.ntmps12
  go_wp2_with fail
  refine (Forward_list 1 [32, 32] (some ⟨w.heap.size, 0, none⟩) 2 _ (Kd.reads_of_C (d := (0 : Int)) (enc := Value.int .i64) (litr [32, 32] (by simp))) (by simp)).mono ?_
  rw [ex1]
  rintro e w1 ⟨va, rfl, hR, hB⟩
  have hb := (below_alloc (Below.refl w.heap.size w) (.cells #[.int .i64 32, .int .i64 32] 3)).trans (hB.mono (by simp))
  have HB1 := Aside0.mk hb
  have HA1 : Aside0 (Got w1 w.heap.size va [32, 1]) := ⟨Kd.R_lower hR (by simp)⟩
  clear hR hB hb
  obtain ⟨Aa, ca, rfl, ha1, ha2⟩ := HA1.out.C
  have HC := Aside0.mk (Kd.reads_of_C (d := (0 : Int)) (enc := Value.int .i64) ha2)
  clear ha1 ha2
  go_wp2_with fail
  refine (Inverse_list 1 [32, 1] Aa ca _ HC.out (by simp)).mono ?_
  rw [ex2]
  rintro e w2 ⟨vb, rfl, hR, hB⟩
  have HB2 := Aside0.mk (HB1.out.trans (hB.mono HB1.out.size))
  have HA2 := Aside0.mk (HA1.out.below hB)
  have HV2 : Aside0 (Got w2 w.heap.size vb [32, 32]) := ⟨Kd.R_lower hR HB1.out.size⟩
  clear hR hB HC HA1 HB1
  have HMD := Aside0.mk (show ∀ W : World, Calls Try.prog 20 #[.slice (some ⟨W.heap.size, 0, none⟩) 2 2, .slice (some ⟨W.heap.size + 1, 0, none⟩) 2 2] ((W.alloc (.cells #[.int .i64 3, .int .i64 (-1)] 3)).alloc (.cells #[.int .i64 0, .int .i64 0] 3)) fun e w' => ∃ v0 v1, e = .returned (.tuple #[v0, v1]) ∧ Got w' W.heap.size v0 [1, -1] ∧ Got w' W.heap.size v1 [3, -1] ∧ Below W.heap.size W w' from fun W => by
    have h1 : Kd.C (Kd.int .i64) (W.alloc (.cells #[.int .i64 3, .int .i64 (-1)] 3)) (some ⟨W.heap.size, 0, none⟩) 2 [3, -1] := litr [3, -1] (by simp)
    have h2 : Kd.C (Kd.int .i64) ((W.alloc (.cells #[.int .i64 3, .int .i64 (-1)] 3)).alloc (.cells #[.int .i64 0, .int .i64 0] 3)) (some ⟨(W.alloc (.cells #[.int .i64 3, .int .i64 (-1)] 3)).heap.size, 0, none⟩) 2 [0, 0] := litr [0, 0] (by simp)
    have h3 : Kd.C (Kd.int .i64) ((W.alloc (.cells #[.int .i64 3, .int .i64 (-1)] 3)).alloc (.cells #[.int .i64 0, .int .i64 0] 3)) (some ⟨W.heap.size, 0, none⟩) 2 [3, -1] := lit_C [3, -1] (blk_alloc (blk_new W _) _) rfl rfl (by simp)
    have e1 : (W.alloc (.cells #[.int .i64 3, .int .i64 (-1)] 3)).heap.size = W.heap.size + 1 := by simp
    rw [e1] at h2
    refine (filter_Mid.calls 5 _ 2 [3, -1] _ 2 [0, 0] [1, -1] [3, -1] _ h3 (Nat.le_refl _) h2 (Nat.le_refl _) ex4).mono ?_
    rintro e w' ⟨v0, v1, rfl, h4, h5, h6⟩
    refine ⟨v0, v1, rfl, Kd.R_mono (Kd.R_lower h4 (by simp; omega)) (fun _ _ => trivial), Kd.R_mono (Kd.R_lower h5 (by simp; omega)) (fun _ _ => trivial), ?_⟩
    exact ((below_alloc (below_alloc (Below.refl W.heap.size W) _) _)).trans (h6.mono (by simp; omega)))
  go_wp2_with fail
  refine (HMD.out _).mono ?_
  rintro e w3 ⟨vm, vs, rfl, hM, hS, hB⟩
  have HB3 := Aside0.mk (HB2.out.trans (hB.mono HB2.out.size))
  have HA3 := Aside0.mk (HA2.out.below hB)
  have HV3 := Aside0.mk (HV2.out.below hB)
  have HM3 := Aside0.mk hM
  have HS3 := Aside0.mk hS
  clear hM hS hB HB2 HA2 HV2 HMD
  have h0 : Kd.C (Kd.int .i64) w3 none ([] : List Int).length [] := Kd.C_nil _ _
  have HC0 := Aside0.mk (Kd.reads_of_C (d := (0 : Int)) (enc := Value.int .i64) h0)
  clear h0
  go_wp2_with fail
  refine (Forward_list 3 [] none 0 _ HC0.out (by simp)).mono ?_
  rw [ex3]
  rintro e w4 ⟨vg, rfl, _, hB⟩
  have HB4 := Aside0.mk (HB3.out.trans (hB.mono HB3.out.size))
  have HA4 := Aside0.mk (HA3.out.below hB)
  have HV4 := Aside0.mk (HV3.out.below hB)
  have HM4 := Aside0.mk (HM3.out.below hB)
  have HS4 := Aside0.mk (HS3.out.below hB)
  clear hB HB3 HA3 HV3 HM3 HS3 HC0
  go_wp2_with fail
  refine (same_lit 32 1 _ _ _ HA4.out).mono ?_
  rintro e w5 ⟨rfl, hB⟩
  have HB5 := Aside0.mk (HB4.out.trans (hB.mono HB4.out.size))
  have HV5 := Aside0.mk (HV4.out.below hB)
  have HM5 := Aside0.mk (HM4.out.below hB)
  have HS5 := Aside0.mk (HS4.out.below hB)
  clear hB HB4 HA4 HV4 HM4 HS4
  go_wp2_with fail
  refine (same_lit 32 32 _ _ _ HV5.out).mono ?_
  rintro e w6 ⟨rfl, hB⟩
  have HB6 := Aside0.mk (HB5.out.trans (hB.mono HB5.out.size))
  have HM6 := Aside0.mk (HM5.out.below hB)
  have HS6 := Aside0.mk (HS5.out.below hB)
  clear hB HB5 HV5 HM5 HS5
  go_wp2_with fail
  refine (same_lit 1 (-1) _ _ _ HM6.out).mono ?_
  rintro e w7 ⟨rfl, hB⟩
  have HB7 := Aside0.mk (HB6.out.trans (hB.mono HB6.out.size))
  have HS7 := Aside0.mk (HS6.out.below hB)
  clear hB HB6 HM6 HS6
  go_wp2_with fail
  refine (same_lit 3 (-1) _ _ _ HS7.out).mono ?_
  rintro e w8 ⟨rfl, hB⟩
  have HB8 := Aside0.mk (HB7.out.trans (hB.mono HB7.out.size))
  clear hB HB7 HS7
  go_wp2_with fail
  refine (New_none 3 (by omega) _).mono ?_
  rintro e w9 ⟨rfl, hd⟩
  have HB9 := Aside0.mk (HB8.out.trans (hd.below.mono HB8.out.size))
  clear hd
  go_wp2
  go_ret
  exact ⟨rfl, HB9.out⟩
end Go.Proofs.Yteljaikpechbmaa.Hand
