/- Contracts of layer 1, proved by hand: BitsBack. -/
import Derived.Test.YtlgkaegcocfhdaaHandO
import Derived.Test.YtlgkaegcocfhdaaHandM
namespace Go.Proofs.Ytlgkaegcocfhdaa.Hand
open Go.RowKit Go.Proofs.Ytlgkaegcocfhdaa.Q Go.Proofs.YtlgkaegcocfhdaaW.PrintWords Go.Proofs.YtlgkaegcocfhdaaW.PrintLast Go.Proofs.YtlgkaegcocfhdaaW.PrintMore
set_option linter.unusedVariables false
set_option linter.unusedSimpArgs false

theorem WAt.deed {w w' : World} {B g k : Nat} {v v' : Value} {bs : List Bool} {cs : Array Value} (hw : WAt w B g v bs) (hm : Moved B g w v w' v') (hk : w.heap[k]? = some (.cells cs 27 (0, 0))) : w'.heap[k]? = some (.cells cs 27 (0, 0)) := by
  refine blk_kept hk hm.kept (fun h => ?_)
  rcases h with e | e
  · subst e
    have h1 := hw.1
    rw [hk] at h1
    injection h1 with h1
    injection h1 with h1 h2
    exact absurd h2 (by decide)
  · exact (Kd.R_ne hw.2.1.all hk (by decide)) e.symm
theorem RAt.deed {w w' : World} {B g k p : Nat} {s : ByteArray} {cs : Array Value} (hr : RAt w g s p) (hm : Turned B g w w') (hk : w.heap[k]? = some (.cells cs 27 (0, 0))) : w'.heap[k]? = some (.cells cs 27 (0, 0)) := by
  refine blk_kept hk hm.kept (fun e => ?_)
  subst e
  have h1 : w.heap[k]? = _ := hr
  rw [hk] at h1
  injection h1 with h1
  injection h1 with h1 h2
  exact absurd h2 (by decide)
/-- What was done: all without an error. -/
structure Done (xs : List Deed) : Prop where
  ok : ∀ x ∈ xs, okDeed x
  inn : ∀ x ∈ xs, InD x
theorem Done.more {xs : List Deed} (h : Done xs) (x : Deed) (h1 : okDeed x) (h2 : InD x) : Done (xs ++ [x]) := by
  refine ⟨fun y hy => ?_, fun y hy => ?_⟩
  · rcases List.mem_append.1 hy with hy | hy
    · exact h.ok y hy
    · rw [List.mem_singleton.1 hy]; exact h1
  · rcases List.mem_append.1 hy with hy | hy
    · exact h.inn y hy
    · rw [List.mem_singleton.1 hy]; exact h2
theorem run_part (xs : List Deed) (k : Nat) (y : Deed) (h : xs[k]? = some y) : runD (xs.take (k + 1)) [] = addD (runD (xs.take k) []) y ∧ ∃ R, runD xs [] = runD (xs.take k) [] ++ codeD (runD (xs.take k) []).length y ++ R := by
  have hk : k < xs.length := (List.getElem?_eq_some_iff.1 h).1
  have hy : xs[k] = y := (List.getElem?_eq_some_iff.1 h).2
  have e1 : runD (xs.take (k + 1)) [] = addD (runD (xs.take k) []) y := by
    rw [List.take_succ_eq_append_getElem hk, runD_snoc, hy]
  refine ⟨e1, ?_⟩
  obtain ⟨R, hR⟩ := runD_ext (xs.drop (k + 1)) (runD (xs.take (k + 1)) [])
  refine ⟨R, ?_⟩
  have : runD xs [] = runD (xs.drop (k + 1)) (runD (xs.take (k + 1)) []) := by
    unfold runD
    rw [← List.foldl_append, List.take_append_drop]
  rw [this, hR, e1]
  rfl
set_option maxHeartbeats 16000000 in
set_option maxRecDepth 100000 in
theorem Back_any (A : Option Addr) (n c : Nat) (V : Nat → Deed) (w : World) (hA : Came w A n V) :
    Calls Try.prog 6 #[.slice A n c] w fun e w' => e = .returned (.bool true) ∧ Below w.heap.size w w' := by
  have hup := Try.underlying22
  have hup2 := Try.underlying36
  have HA := Aside0.mk hA
  clear hA
  go_enter Try.func6, Try.ntmps6
  go_wp2_with fail
  refine (New_any _).mono ?_
  rintro e w1 ⟨rfl, rfl⟩
  have HE := Aside0.mk (new_at w w.heap.size (Nat.le_refl _))
  have HB := Aside0.mk ((Below.refl w.heap.size w).alloc (Nat.le_refl _) (.cells #[.int .i64 0, .slice none 0 0] 66))
  generalize w.alloc (.cells #[.int .i64 0, .slice none 0 0] 66) = w1 at HE HB ⊢
  go_wp2
  go_loopw [4, 5, 6, 7] (fun u i _ _ wr => ∃ (d : Nat) (v : Value) (xs : List Deed), d ≤ n ∧ d ≤ 60 ∧ i = .int .i64 d ∧ Aside0 (WAt wr w.heap.size w.heap.size v (runD xs [])) ∧ Aside0 (DeedsAt wr w.heap.size u xs) ∧ Aside0 (Done xs) ∧ Aside0 ((runD xs []).length ≤ 16777300 * d ∧ xs.length ≤ d) ∧ Aside0 (Below w.heap.size w wr)) (fun _ i _ _ _ => 60 - (intOf i).toNat)
  case atStart => exact ⟨0, _, [], by omega, by omega, rfl, HE, ⟨Kd.R_nil _ _ _ _ _⟩, ⟨⟨fun x hx => (by cases hx), fun x hx => (by cases hx)⟩⟩, ⟨by decide⟩, HB⟩
  case round =>
    clear HE HB
    obtain ⟨d, v, xs, hd, hd2, rfl, HE, HU, HDN, HS, HB⟩ := hrel
    by_cases hlt : d < n ∧ d < 60
    · obtain ⟨l1, l2⟩ := hlt
      have i1 : (d : Int) < (n : Int) := by omega
      have i2 : (d : Int) < 60 := by omega
      obtain ⟨hin, ad, rfl, k0, k1, k2, k3⟩ := HA.out d l1
      rw [Nat.add_zero] at k0
      rw [add_field _ _ 1 (by omega)] at k1
      rw [add_field _ _ 2 (by omega)] at k2
      rw [add_field _ _ 3 (by omega)] at k3
      have k0 := pw_cell_below HB.out k0
      have k1 := pw_cell_below HB.out k1
      have k2 := pw_cell_below HB.out k2
      have k3 := pw_cell_below HB.out k3
      have HIN := Aside0.mk hin
      clear hin
      generalize V d = y at k0 k1 k2 k3 HIN
      have HE1 := Aside0.mk (HE.out.below (below_alloc (Below.refl _ _) (.cells #[.int .i64 y.k, .int .i64 y.w, .int .i64 y.n, .int .u64 y.u] 27)))
      have HU1 := Aside0.mk (HU.out.below (below_alloc (Below.refl _ _) (.cells #[.int .i64 y.k, .int .i64 y.w, .int .i64 y.n, .int .u64 y.u] 27)))
      have HB1 := Aside0.mk (HB.out.alloc HB.out.size (.cells #[.int .i64 y.k, .int .i64 y.w, .int .i64 y.n, .int .u64 y.u] 27))
      have HY1 := Aside0.mk (blk_new wr (.cells #[.int .i64 y.k, .int .i64 y.w, .int .i64 y.n, .int .u64 y.u] 27))
      go_wp2_with fail
      refine (light_any y.k y.w y.n y.u HIN.out.n0 HIN.out.n1 _).mono ?_
      rintro e w2 ⟨rfl, hB2⟩
      have HE2 := Aside0.mk (HE1.out.below hB2)
      have HU2 := Aside0.mk (HU1.out.below hB2)
      have HB2 := Aside0.mk (HB1.out.trans (hB2.mono HB1.out.size))
      have HY2 := Aside0.mk (blk_below HY1.out hB2)
      clear hB2 k0 k1 k2 k3 HE HU HB HE1 HU1 HB1 HY1
      generalize wr.heap.size = q at HY2 ⊢
      have k0 : w2.cell? ⟨q, 0, none⟩ = some (.int .i64 y.k) := blk_cell HY2.out 0
      have k1 : w2.cell? ⟨q, 1, none⟩ = some (.int .i64 y.w) := blk_cell HY2.out 1
      have k2 : w2.cell? ⟨q, 2, none⟩ = some (.int .i64 y.n) := blk_cell HY2.out 2
      have k3 : w2.cell? ⟨q, 3, none⟩ = some (.int .u64 y.u) := blk_cell HY2.out 3
      generalize decide (lightP y.k y.w y.n) = lb
      cases lb with
      | false =>
        go_wp2
        go_roundw
        case rel => exact ⟨d + 1, v, xs, by omega, by omega, by go_num, HE2, HU2, HDN, ⟨by have := HS.out.1; omega, by have := HS.out.2; omega⟩, HB2⟩
        case measure => simp [intOf]; omega
      | true =>
        have HLEN := Aside0.mk (show (runD xs []).length + 16777400 < 1125899906842624 by have := HS.out.1; omega)
        have HSL := Aside0.mk (step_length (runD xs []) y)
        have HWY : Aside0 (∀ (W W' : World) (v' : Value) (bs : List Bool), WAt W w.heap.size w.heap.size v bs → Moved w.heap.size w.heap.size W v W' v' → W.heap[q]? = some (.cells #[.int .i64 y.k, .int .i64 y.w, .int .i64 y.n, .int .u64 y.u] 27 (0, 0)) → W'.cell? ⟨q, 0, none⟩ = some (.int .i64 y.k) ∧ W'.cell? ⟨q, 1, none⟩ = some (.int .i64 y.w) ∧ W'.cell? ⟨q, 2, none⟩ = some (.int .i64 y.n) ∧ W'.cell? ⟨q, 3, none⟩ = some (.int .u64 y.u)) :=
          ⟨fun W W' v' bs hw hm hy => by
            have := hw.deed hm hy
            exact ⟨blk_cell this 0, blk_cell this 1, blk_cell this 2, blk_cell this 3⟩⟩
        by_cases hok : okDeed y
        · have HST : Aside0 (stepD (runD xs []) y = runD (xs ++ [y]) []) := ⟨by unfold stepD; rw [if_pos hok, runD_snoc]⟩
          have HER : Aside0 (errD y = 0) := ⟨by unfold errD; rw [if_pos hok]⟩
          have HMO := Aside0.mk (HDN.out.more y hok HIN.out)
          clear hok
          by_cases hk0 : y.k = 0
          · have HCT := Aside0.mk (do_put y HIN.out hk0 (runD xs []) w.heap.size w.heap.size v w2 HE2.out HLEN.out)
            rw [HER.out] at HCT
            rw [hk0] at k0
            clear hk0
            go_wp2_with fail
            refine HCT.out.mono ?_
            rintro e w3 ⟨rfl, v3, hE, hM⟩
            have HE3 := Aside0.mk hE
            have HU3 := Aside0.mk (HU2.out.moved HE2.out hM)
            have HB3 := Aside0.mk (HB2.out.trans hM.below)
            have hc3 := HWY.out _ _ _ _ HE2.out hM HY2.out
            clear hE hM k0 k1 k2 k3
            obtain ⟨k0, k1, k2, k3⟩ := hc3
            go_wp2_with (at_builtin; (with_reducible refine deed_list (w0 := w) (B := w.heap.size) (u := u4) (xs := xs) (.tmp 76) (.tmp 78) y ?_ ?_ ?_ ?_ ?_ ?_ ?_ ?_ ?_); rfl; rfl; rfl; rfl; exact HU3.out; exact HB3.out; exact HB3.out.size; (have := HS.out.2; omega); intro v1 w4 HU4 HB4 HG4; have HE4 := Aside0.mk (HE3.out.deeds HU3.out HG4.out))
            go_roundw
            case rel => exact ⟨d + 1, v3, xs ++ [y], by omega, by omega, by go_num, ⟨HST.out ▸ HE4.out⟩, HU4, HMO, ⟨by rw [← HST.out]; have := HSL.out; have := HS.out.1; omega, by simp; have := HS.out.2; omega⟩, HB4⟩
            case measure => simp [intOf]; omega
          · skip
            by_cases hk1 : y.k = 1
            · have HCT := Aside0.mk (do_signed y HIN.out hk1 (runD xs []) w.heap.size w.heap.size v w2 HE2.out HLEN.out)
              rw [HER.out] at HCT
              rw [hk1] at k0
              clear hk0 hk1
              go_wp2_with fail
              refine HCT.out.mono ?_
              rintro e w3 ⟨rfl, v3, hE, hM⟩
              have HE3 := Aside0.mk hE
              have HU3 := Aside0.mk (HU2.out.moved HE2.out hM)
              have HB3 := Aside0.mk (HB2.out.trans hM.below)
              have hc3 := HWY.out _ _ _ _ HE2.out hM HY2.out
              clear hE hM k0 k1 k2 k3
              obtain ⟨k0, k1, k2, k3⟩ := hc3
              go_wp2_with (at_builtin; (with_reducible refine deed_list (w0 := w) (B := w.heap.size) (u := u4) (xs := xs) (.tmp 76) (.tmp 78) y ?_ ?_ ?_ ?_ ?_ ?_ ?_ ?_ ?_); rfl; rfl; rfl; rfl; exact HU3.out; exact HB3.out; exact HB3.out.size; (have := HS.out.2; omega); intro v1 w4 HU4 HB4 HG4; have HE4 := Aside0.mk (HE3.out.deeds HU3.out HG4.out))
              go_roundw
              case rel => exact ⟨d + 1, v3, xs ++ [y], by omega, by omega, by go_num, ⟨HST.out ▸ HE4.out⟩, HU4, HMO, ⟨by rw [← HST.out]; have := HSL.out; have := HS.out.1; omega, by simp; have := HS.out.2; omega⟩, HB4⟩
              case measure => simp [intOf]; omega
            · skip
              by_cases hk2 : y.k = 2
              · have HCT := Aside0.mk (do_unary y HIN.out hk2 (runD xs []) w.heap.size w.heap.size v w2 HE2.out HLEN.out)
                rw [HER.out] at HCT
                rw [hk2] at k0
                clear hk0 hk1 hk2
                go_wp2_with fail
                refine HCT.out.mono ?_
                rintro e w3 ⟨rfl, v3, hE, hM⟩
                have HE3 := Aside0.mk hE
                have HU3 := Aside0.mk (HU2.out.moved HE2.out hM)
                have HB3 := Aside0.mk (HB2.out.trans hM.below)
                have hc3 := HWY.out _ _ _ _ HE2.out hM HY2.out
                clear hE hM k0 k1 k2 k3
                obtain ⟨k0, k1, k2, k3⟩ := hc3
                go_wp2_with (at_builtin; (with_reducible refine deed_list (w0 := w) (B := w.heap.size) (u := u4) (xs := xs) (.tmp 76) (.tmp 78) y ?_ ?_ ?_ ?_ ?_ ?_ ?_ ?_ ?_); rfl; rfl; rfl; rfl; exact HU3.out; exact HB3.out; exact HB3.out.size; (have := HS.out.2; omega); intro v1 w4 HU4 HB4 HG4; have HE4 := Aside0.mk (HE3.out.deeds HU3.out HG4.out))
                go_roundw
                case rel => exact ⟨d + 1, v3, xs ++ [y], by omega, by omega, by go_num, ⟨HST.out ▸ HE4.out⟩, HU4, HMO, ⟨by rw [← HST.out]; have := HSL.out; have := HS.out.1; omega, by simp; have := HS.out.2; omega⟩, HB4⟩
                case measure => simp [intOf]; omega
              · skip
                by_cases hk3 : y.k = 3
                · have HCT := Aside0.mk (do_rice y HIN.out hk3 (runD xs []) w.heap.size w.heap.size v w2 HE2.out HLEN.out)
                  rw [HER.out] at HCT
                  rw [hk3] at k0
                  clear hk0 hk1 hk2 hk3
                  go_wp2_with fail
                  refine HCT.out.mono ?_
                  rintro e w3 ⟨rfl, v3, hE, hM⟩
                  have HE3 := Aside0.mk hE
                  have HU3 := Aside0.mk (HU2.out.moved HE2.out hM)
                  have HB3 := Aside0.mk (HB2.out.trans hM.below)
                  have hc3 := HWY.out _ _ _ _ HE2.out hM HY2.out
                  clear hE hM k0 k1 k2 k3
                  obtain ⟨k0, k1, k2, k3⟩ := hc3
                  go_wp2_with (at_builtin; (with_reducible refine deed_list (w0 := w) (B := w.heap.size) (u := u4) (xs := xs) (.tmp 76) (.tmp 78) y ?_ ?_ ?_ ?_ ?_ ?_ ?_ ?_ ?_); rfl; rfl; rfl; rfl; exact HU3.out; exact HB3.out; exact HB3.out.size; (have := HS.out.2; omega); intro v1 w4 HU4 HB4 HG4; have HE4 := Aside0.mk (HE3.out.deeds HU3.out HG4.out))
                  go_roundw
                  case rel => exact ⟨d + 1, v3, xs ++ [y], by omega, by omega, by go_num, ⟨HST.out ▸ HE4.out⟩, HU4, HMO, ⟨by rw [← HST.out]; have := HSL.out; have := HS.out.1; omega, by simp; have := HS.out.2; omega⟩, HB4⟩
                  case measure => simp [intOf]; omega
                · skip
                  have HCT := Aside0.mk ((do_align y hk0 hk1 hk2 hk3 (runD xs []) w.heap.size w.heap.size v w2 HE2.out HLEN.out).2)
                  have b0 : (y.k == 0) = false := by simpa using hk0
                  have b1 : (y.k == 1) = false := by simpa using hk1
                  have b2 : (y.k == 2) = false := by simpa using hk2
                  have b3 : (y.k == 3) = false := by simpa using hk3
                  clear hk0 hk1 hk2 hk3
                  go_wp2_with fail
                  refine HCT.out.mono ?_
                  rintro e w3 ⟨rfl, v3, hE, hM⟩
                  have HE3 := Aside0.mk hE
                  have HU3 := Aside0.mk (HU2.out.moved HE2.out hM)
                  have HB3 := Aside0.mk (HB2.out.trans hM.below)
                  have hc3 := HWY.out _ _ _ _ HE2.out hM HY2.out
                  clear hE hM k0 k1 k2 k3
                  obtain ⟨k0, k1, k2, k3⟩ := hc3
                  go_wp2_with (at_builtin; (with_reducible refine deed_list (w0 := w) (B := w.heap.size) (u := u4) (xs := xs) (.tmp 76) (.tmp 78) y ?_ ?_ ?_ ?_ ?_ ?_ ?_ ?_ ?_); rfl; rfl; rfl; rfl; exact HU3.out; exact HB3.out; exact HB3.out.size; (have := HS.out.2; omega); intro v1 w4 HU4 HB4 HG4; have HE4 := Aside0.mk (HE3.out.deeds HU3.out HG4.out))
                  go_roundw
                  case rel => exact ⟨d + 1, v3, xs ++ [y], by omega, by omega, by go_num, ⟨HST.out ▸ HE4.out⟩, HU4, HMO, ⟨by rw [← HST.out]; have := HSL.out; have := HS.out.1; omega, by simp; have := HS.out.2; omega⟩, HB4⟩
                  case measure => simp [intOf]; omega
        · have HST : Aside0 (stepD (runD xs []) y = runD xs []) := ⟨by unfold stepD; rw [if_neg hok]⟩
          have HER : Aside0 (errD y = 11) := ⟨by unfold errD; rw [if_neg hok]⟩
          have HAL : Aside0 (y.k ≠ 0 → y.k ≠ 1 → y.k ≠ 2 → y.k ≠ 3 → False) := ⟨fun h0 h1 h2 h3 => hok (by unfold okDeed; rw [if_neg h0, if_neg h1, if_neg h2, if_neg h3]; trivial)⟩
          clear hok
          by_cases hk0 : y.k = 0
          · have HCT := Aside0.mk (do_put y HIN.out hk0 (runD xs []) w.heap.size w.heap.size v w2 HE2.out HLEN.out)
            rw [HER.out] at HCT
            rw [hk0] at k0
            clear hk0
            go_wp2_with fail
            refine HCT.out.mono ?_
            rintro e w3 ⟨rfl, v3, hE, hM⟩
            have HE3 := Aside0.mk hE
            have HU3 := Aside0.mk (HU2.out.moved HE2.out hM)
            have HB3 := Aside0.mk (HB2.out.trans hM.below)
            have hc3 := HWY.out _ _ _ _ HE2.out hM HY2.out
            clear hE hM k0 k1 k2 k3
            obtain ⟨k0, k1, k2, k3⟩ := hc3
            go_wp2
            go_roundw
            case rel => exact ⟨d + 1, v3, xs, by omega, by omega, by go_num, ⟨HST.out ▸ HE3.out⟩, HU3, HDN, ⟨by have := HS.out.1; omega, by have := HS.out.2; omega⟩, HB3⟩
            case measure => simp [intOf]; omega
          · skip
            by_cases hk1 : y.k = 1
            · have HCT := Aside0.mk (do_signed y HIN.out hk1 (runD xs []) w.heap.size w.heap.size v w2 HE2.out HLEN.out)
              rw [HER.out] at HCT
              rw [hk1] at k0
              clear hk0 hk1
              go_wp2_with fail
              refine HCT.out.mono ?_
              rintro e w3 ⟨rfl, v3, hE, hM⟩
              have HE3 := Aside0.mk hE
              have HU3 := Aside0.mk (HU2.out.moved HE2.out hM)
              have HB3 := Aside0.mk (HB2.out.trans hM.below)
              have hc3 := HWY.out _ _ _ _ HE2.out hM HY2.out
              clear hE hM k0 k1 k2 k3
              obtain ⟨k0, k1, k2, k3⟩ := hc3
              go_wp2
              go_roundw
              case rel => exact ⟨d + 1, v3, xs, by omega, by omega, by go_num, ⟨HST.out ▸ HE3.out⟩, HU3, HDN, ⟨by have := HS.out.1; omega, by have := HS.out.2; omega⟩, HB3⟩
              case measure => simp [intOf]; omega
            · skip
              by_cases hk2 : y.k = 2
              · have HCT := Aside0.mk (do_unary y HIN.out hk2 (runD xs []) w.heap.size w.heap.size v w2 HE2.out HLEN.out)
                rw [HER.out] at HCT
                rw [hk2] at k0
                clear hk0 hk1 hk2
                go_wp2_with fail
                refine HCT.out.mono ?_
                rintro e w3 ⟨rfl, v3, hE, hM⟩
                have HE3 := Aside0.mk hE
                have HU3 := Aside0.mk (HU2.out.moved HE2.out hM)
                have HB3 := Aside0.mk (HB2.out.trans hM.below)
                have hc3 := HWY.out _ _ _ _ HE2.out hM HY2.out
                clear hE hM k0 k1 k2 k3
                obtain ⟨k0, k1, k2, k3⟩ := hc3
                go_wp2
                go_roundw
                case rel => exact ⟨d + 1, v3, xs, by omega, by omega, by go_num, ⟨HST.out ▸ HE3.out⟩, HU3, HDN, ⟨by have := HS.out.1; omega, by have := HS.out.2; omega⟩, HB3⟩
                case measure => simp [intOf]; omega
              · skip
                by_cases hk3 : y.k = 3
                · have HCT := Aside0.mk (do_rice y HIN.out hk3 (runD xs []) w.heap.size w.heap.size v w2 HE2.out HLEN.out)
                  rw [HER.out] at HCT
                  rw [hk3] at k0
                  clear hk0 hk1 hk2 hk3
                  go_wp2_with fail
                  refine HCT.out.mono ?_
                  rintro e w3 ⟨rfl, v3, hE, hM⟩
                  have HE3 := Aside0.mk hE
                  have HU3 := Aside0.mk (HU2.out.moved HE2.out hM)
                  have HB3 := Aside0.mk (HB2.out.trans hM.below)
                  have hc3 := HWY.out _ _ _ _ HE2.out hM HY2.out
                  clear hE hM k0 k1 k2 k3
                  obtain ⟨k0, k1, k2, k3⟩ := hc3
                  go_wp2
                  go_roundw
                  case rel => exact ⟨d + 1, v3, xs, by omega, by omega, by go_num, ⟨HST.out ▸ HE3.out⟩, HU3, HDN, ⟨by have := HS.out.1; omega, by have := HS.out.2; omega⟩, HB3⟩
                  case measure => simp [intOf]; omega
                · skip
                  exact (HAL.out hk0 hk1 hk2 hk3).elim
    · have hlt2 : ¬ ((d : Int) < (n : Int)) ∨ ¬ ((d : Int) < 60) := by omega
      have HTX := Aside0.mk (text_holds (runD xs []))
      have hsz : (strOfNums (pack (runD xs []))).size ≤ 281474976710656 := by rw [size_nums, pack_length]; have := HS.out.1; omega
      have HSZ := Aside0.mk hsz
      have HCT := Aside0.mk (Bytes_any (runD xs []) w.heap.size w.heap.size v wr HE.out)
      clear hlt hsz
      generalize strOfNums (pack (runD xs [])) = S at HTX HSZ HCT
      go_wp2_with fail
      all_goals first
        | (exfalso; omega)
        | skip
      all_goals
        refine HCT.out.mono ?_
        rintro e w2 ⟨rfl, rfl⟩
        go_wp2_with fail
        refine (Of_any S wr).mono ?_
        rintro e w3 ⟨rfl, rfl⟩
        have HR3 := Aside0.mk (of_at S wr)
        have HU3 := Aside0.mk (HU.out.below (below_alloc (Below.refl _ _) (.cells #[.int .i64 0, .string S] 70)))
        have HB3 := Aside0.mk (HB.out.alloc HB.out.size (.cells #[.int .i64 0, .string S] 70))
        have HG := Aside0.mk HB.out.size
        generalize wr.alloc (.cells #[.int .i64 0, .string S] 70) = w3 at HR3 HU3 HB3 ⊢
        generalize wr.heap.size = g at HR3 HG ⊢
        have hxl : xs.length ≤ 100 := by have := HS.out.2; omega
        clear HE HU HB HCT
        go_wp2
        go_loopw [9] (fun i wr => ∃ (k p : Nat), k ≤ xs.length ∧ i = .int .i64 k ∧ Aside0 (RAt wr g S p) ∧ Aside0 (p = (runD (xs.take k) []).length) ∧ Aside0 (p ≤ 8 * S.size) ∧ Aside0 (DeedsAt wr w.heap.size u4 xs) ∧ Aside0 (Below w.heap.size w wr)) (fun i _ => xs.length - (intOf i).toNat)
        case atStart => exact ⟨0, 0, by omega, rfl, HR3, ⟨rfl⟩, ⟨by omega⟩, HU3, HB3⟩
        case round =>
          clear HR3 HU3 HB3
          obtain ⟨k, p, hk, rfl, HR, HP, HPS, HU, HB⟩ := hrel
          obtain ⟨A2, cc, rfl, hl2, hC⟩ := Kd.R_reads HU.out
          have HCC := Aside0.mk hC
          clear hC
          by_cases hlt : k < xs.length
          · have i1 : (k : Int) < (xs.length : Int) := by omega
            obtain ⟨y, hy⟩ : ∃ y, xs[k]? = some y := ⟨xs[k], List.getElem?_eq_getElem hlt⟩
            have hmem : y ∈ xs := by obtain ⟨_, e⟩ := List.getElem?_eq_some_iff.1 hy; exact e ▸ List.getElem_mem hlt
            have HOK := Aside0.mk (HDN.out.ok y hmem)
            have HIN := Aside0.mk (HDN.out.inn y hmem)
            obtain ⟨hn, R, hR⟩ := run_part xs k y hy
            have HRD := Aside0.mk hR
            have HNX := Aside0.mk (show (runD (xs.take (k + 1)) []).length = p + (codeD p y).length by rw [hn]; unfold addD; rw [List.length_append, ← HP.out])
            have HPN := Aside0.mk (show p + (codeD p y).length ≤ 8 * S.size by have := HTX.out.len; rw [hR, List.length_append, List.length_append, ← HP.out] at this; omega)
            obtain ⟨ad, rfl, hel⟩ := HCC.out.2.2 (by omega)
            obtain ⟨cs, _, hK, hcell⟩ := hel k y hy
            rw [kD_open hK] at hcell
            have k0 : wr.cell? (ad.add (k * kD.sz + 0)) = some (Value.int .i64 y.k) := hcell 0 _ rfl
            have k1 : wr.cell? (ad.add (k * kD.sz + 1)) = some (Value.int .i64 y.w) := hcell 1 _ rfl
            have k2 : wr.cell? (ad.add (k * kD.sz + 2)) = some (Value.int .i64 y.n) := hcell 2 _ rfl
            have k3 : wr.cell? (ad.add (k * kD.sz + 3)) = some (Value.int .u64 y.u) := hcell 3 _ rfl
            have e4 : kD.sz = 4 := rfl
            rw [e4] at k0 k1 k2 k3
            rw [Nat.add_zero] at k0
            rw [add_field _ _ 1 (by omega)] at k1
            rw [add_field _ _ 2 (by omega)] at k2
            rw [add_field _ _ 3 (by omega)] at k3
            clear hel hcell hK hy hmem hn hR
            have HR4 := Aside0.mk (HR.out.new (.cells #[.int .i64 y.k, .int .i64 y.w, .int .i64 y.n, .int .u64 y.u] 27))
            have HU4 := Aside0.mk (HU.out.below (below_alloc (Below.refl wr.heap.size wr) (.cells #[.int .i64 y.k, .int .i64 y.w, .int .i64 y.n, .int .u64 y.u] 27)))
            have HB4 := Aside0.mk (HB.out.alloc HB.out.size (.cells #[.int .i64 y.k, .int .i64 y.w, .int .i64 y.n, .int .u64 y.u] 27))
            have HY4 := Aside0.mk (blk_new wr (.cells #[.int .i64 y.k, .int .i64 y.w, .int .i64 y.n, .int .u64 y.u] 27))
            obtain ⟨q, hq⟩ : ∃ q, wr.heap.size = q := ⟨_, rfl⟩
            have HQ := Aside0.mk hq
            clear hq
            by_cases hk0 : y.k = 0
            · have HRE := Aside0.mk (read_put y HTX.out HRD.out hk0 HOK.out)
              rw [← HP.out] at HRE
              rw [hk0] at k0 HR4 HU4 HB4 HY4
              have HCT := Aside0.mk (Get_any S HSZ.out p HPS.out y.w w.heap.size g HG.out _ HR4.out)
              rw [HRE.out] at HCT
              have hu : ((y.u.toNat : Nat) : Int) = y.u := by have := HIN.out.u0; omega
              rw [hu] at HCT
              clear hu hk0
              go_wp2_with fail
              refine HCT.out.mono ?_
              rintro e w5 ⟨rfl, hR5, hT5⟩
              have HR5 := Aside0.mk hR5
              have HU5 := Aside0.mk (HU4.out.turned HR4.out hT5)
              have HB5 := Aside0.mk (HB4.out.trans hT5.below)
              have hy5 := HR4.out.deed hT5 HY4.out
              have q0 : w5.cell? ⟨wr.heap.size, 0, none⟩ = some (.int .i64 0) := blk_cell hy5 0
              have q1 : w5.cell? ⟨wr.heap.size, 1, none⟩ = some (.int .i64 y.w) := blk_cell hy5 1
              have q2 : w5.cell? ⟨wr.heap.size, 2, none⟩ = some (.int .i64 y.n) := blk_cell hy5 2
              have q3 : w5.cell? ⟨wr.heap.size, 3, none⟩ = some (.int .u64 y.u) := blk_cell hy5 3
              clear hR5 hT5 hy5 k0 k1 k2 k3
              go_wp2
              go_roundw
              case rel => exact ⟨k + 1, p + (codeD p y).length, by omega, by go_num, HR5, ⟨HNX.out.symm⟩, HPN, HU5, HB5⟩
              case measure => simp [intOf]; omega
            · by_cases hk1 : y.k = 1
              · have HRE := Aside0.mk (read_signed y HTX.out HRD.out hk1 HOK.out)
                rw [← HP.out] at HRE
                rw [hk1] at k0 HR4 HU4 HB4 HY4
                have HCT := Aside0.mk (SignedR_any S HSZ.out p HPS.out y.w w.heap.size g HG.out _ HR4.out)
                rw [HRE.out] at HCT
                clear hk0 hk1
                go_wp2_with fail
                refine HCT.out.mono ?_
                rintro e w5 ⟨rfl, hR5, hT5⟩
                have HR5 := Aside0.mk hR5
                have HU5 := Aside0.mk (HU4.out.turned HR4.out hT5)
                have HB5 := Aside0.mk (HB4.out.trans hT5.below)
                have hy5 := HR4.out.deed hT5 HY4.out
                have q0 : w5.cell? ⟨wr.heap.size, 0, none⟩ = some (.int .i64 1) := blk_cell hy5 0
                have q1 : w5.cell? ⟨wr.heap.size, 1, none⟩ = some (.int .i64 y.w) := blk_cell hy5 1
                have q2 : w5.cell? ⟨wr.heap.size, 2, none⟩ = some (.int .i64 y.n) := blk_cell hy5 2
                have q3 : w5.cell? ⟨wr.heap.size, 3, none⟩ = some (.int .u64 y.u) := blk_cell hy5 3
                clear hR5 hT5 hy5 k0 k1 k2 k3
                go_wp2
                go_roundw
                case rel => exact ⟨k + 1, p + (codeD p y).length, by omega, by go_num, HR5, ⟨HNX.out.symm⟩, HPN, HU5, HB5⟩
                case measure => simp [intOf]; omega
              · by_cases hk2 : y.k = 2
                · have HRE := Aside0.mk (read_unary y HTX.out HRD.out hk2 HOK.out)
                  rw [← HP.out] at HRE
                  rw [hk2] at k0 HR4 HU4 HB4 HY4
                  have HCT := Aside0.mk (UnaryR_any S HSZ.out p HPS.out w.heap.size g HG.out _ HR4.out)
                  rw [HRE.out] at HCT
                  have hu : ((y.n.toNat : Nat) : Int) = y.n := by
                    have h := HOK.out
                    unfold okDeed at h
                    rw [if_neg hk0, if_neg hk1, if_pos hk2] at h
                    omega
                  rw [hu] at HCT
                  clear hu hk0 hk1 hk2
                  go_wp2_with fail
                  refine HCT.out.mono ?_
                  rintro e w5 ⟨rfl, hR5, hT5⟩
                  have HR5 := Aside0.mk hR5
                  have HU5 := Aside0.mk (HU4.out.turned HR4.out hT5)
                  have HB5 := Aside0.mk (HB4.out.trans hT5.below)
                  have hy5 := HR4.out.deed hT5 HY4.out
                  have q0 : w5.cell? ⟨wr.heap.size, 0, none⟩ = some (.int .i64 2) := blk_cell hy5 0
                  have q1 : w5.cell? ⟨wr.heap.size, 1, none⟩ = some (.int .i64 y.w) := blk_cell hy5 1
                  have q2 : w5.cell? ⟨wr.heap.size, 2, none⟩ = some (.int .i64 y.n) := blk_cell hy5 2
                  have q3 : w5.cell? ⟨wr.heap.size, 3, none⟩ = some (.int .u64 y.u) := blk_cell hy5 3
                  clear hR5 hT5 hy5 k0 k1 k2 k3
                  go_wp2
                  go_roundw
                  case rel => exact ⟨k + 1, p + (codeD p y).length, by omega, by go_num, HR5, ⟨HNX.out.symm⟩, HPN, HU5, HB5⟩
                  case measure => simp [intOf]; omega
                · by_cases hk3 : y.k = 3
                  · have HRE := Aside0.mk (read_rice y HTX.out HRD.out hk3 HOK.out)
                    rw [← HP.out] at HRE
                    rw [hk3] at k0 HR4 HU4 HB4 HY4
                    have HCT := Aside0.mk (RiceR_any S HSZ.out p HPS.out y.w w.heap.size g HG.out _ HR4.out)
                    rw [HRE.out] at HCT
                    clear hk0 hk1 hk2 hk3
                    go_wp2_with fail
                    refine HCT.out.mono ?_
                    rintro e w5 ⟨rfl, hR5, hT5⟩
                    have HR5 := Aside0.mk hR5
                    have HU5 := Aside0.mk (HU4.out.turned HR4.out hT5)
                    have HB5 := Aside0.mk (HB4.out.trans hT5.below)
                    have hy5 := HR4.out.deed hT5 HY4.out
                    have q0 : w5.cell? ⟨wr.heap.size, 0, none⟩ = some (.int .i64 3) := blk_cell hy5 0
                    have q1 : w5.cell? ⟨wr.heap.size, 1, none⟩ = some (.int .i64 y.w) := blk_cell hy5 1
                    have q2 : w5.cell? ⟨wr.heap.size, 2, none⟩ = some (.int .i64 y.n) := blk_cell hy5 2
                    have q3 : w5.cell? ⟨wr.heap.size, 3, none⟩ = some (.int .u64 y.u) := blk_cell hy5 3
                    clear hR5 hT5 hy5 k0 k1 k2 k3
                    go_wp2
                    go_roundw
                    case rel => exact ⟨k + 1, p + (codeD p y).length, by omega, by go_num, HR5, ⟨HNX.out.symm⟩, HPN, HU5, HB5⟩
                    case measure => simp [intOf]; omega
                  · have HRE := Aside0.mk (read_align y HTX.out HRD.out hk0 hk1 hk2 hk3)
                    rw [← HP.out] at HRE
                    have HCT := Aside0.mk (AlignR_any S HSZ.out p HPS.out w.heap.size g HG.out _ HR4.out)
                    rw [HRE.out] at HCT
                    have b0 : (y.k == 0) = false := by simpa using hk0
                    have b1 : (y.k == 1) = false := by simpa using hk1
                    have b2 : (y.k == 2) = false := by simpa using hk2
                    have b3 : (y.k == 3) = false := by simpa using hk3
                    clear hk0 hk1 hk2 hk3
                    go_wp2_with fail
                    refine HCT.out.mono ?_
                    rintro e w5 ⟨rfl, hR5, hT5⟩
                    have HR5 := Aside0.mk hR5
                    have HU5 := Aside0.mk (HU4.out.turned HR4.out hT5)
                    have HB5 := Aside0.mk (HB4.out.trans hT5.below)
                    have hy5 := HR4.out.deed hT5 HY4.out
                    have q0 : w5.cell? ⟨wr.heap.size, 0, none⟩ = some (.int .i64 y.k) := blk_cell hy5 0
                    have q1 : w5.cell? ⟨wr.heap.size, 1, none⟩ = some (.int .i64 y.w) := blk_cell hy5 1
                    have q2 : w5.cell? ⟨wr.heap.size, 2, none⟩ = some (.int .i64 y.n) := blk_cell hy5 2
                    have q3 : w5.cell? ⟨wr.heap.size, 3, none⟩ = some (.int .u64 y.u) := blk_cell hy5 3
                    clear hR5 hT5 hy5 k0 k1 k2 k3
                    go_wp2
                    go_roundw
                    case rel => exact ⟨k + 1, p + (codeD p y).length, by omega, by go_num, HR5, ⟨HNX.out.symm⟩, HPN, HU5, HB5⟩
                    case measure => simp [intOf]; omega
          · obtain rfl : k = xs.length := by omega
            have hlen : ((8 * S.size - p : Nat) : Int) < 8 := by
              have h1 := HP.out
              rw [List.take_length] at h1
              have h2 := HTX.out.end_
              omega
            have HCT := Aside0.mk (Left_any S HSZ.out p g HPS.out wr HR.out)
            generalize ((8 * S.size - p : Nat) : Int) = left at hlen HCT
            go_wp2_with fail
            refine HCT.out.mono ?_
            rintro e w4 ⟨rfl, hd⟩
            have HB4 := Aside0.mk (below_drawn HB.out hd)
            clear hd
            go_wp2_with fail
            refine (awake_any _).mono ?_
            rintro e w5 ⟨rfl, hB5⟩
            have HB5 := Aside0.mk (HB4.out.trans (hB5.mono HB4.out.size))
            clear hB5
            go_wp2
            go_ret
            exact ⟨rfl, HB5.out⟩
end Go.Proofs.Ytlgkaegcocfhdaa.Hand
