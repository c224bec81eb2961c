/- Contracts of layer 18, proved by hand: RangesBack. -/
import Derived.Test.YtaojnjjajnbgoaaHandN
namespace Go.Proofs.Ytaojnjjajnbgoaa.Hand
open Go.RowKit Go.Proofs.Ytaojnjjajnbgoaa.Q Go.Proofs.Ytaojnjjajnbgoaa.Math Go.Proofs.YtaojnjjajnbgoaaW.PrintWords Go.Proofs.YtaojnjjajnbgoaaW.PrintLast Go.Proofs.YtaojnjjajnbgoaaW.PrintMore
set_option linter.unusedVariables false
set_option linter.unusedSimpArgs false

/-- An encoder behind so many deeds. -/
structure Done (s : Enc) (xs : List Deed) : Prop where
  ok : ∀ x ∈ xs, okDeed x
  run : s = runE (xs.map partOf) newE
theorem Done.fits {s : Enc} {xs : List Deed} (h : Done s xs) : Fits s ∧ 16777216 ≤ s.width ∧ Nest newE s := by
  rw [h.run]
  refine run_fits _ ?_ newE new_fits (by decide)
  intro p hp
  obtain ⟨x, hx, rfl⟩ := List.mem_map.1 hp
  exact part_may x (h.ok x hx)
theorem Done.more {s : Enc} {xs : List Deed} (h : Done s xs) (x : Deed) (hx : okDeed x) : Done (putE (partOf x).1 (partOf x).2.1 (partOf x).2.2 s) (xs ++ [x]) := by
  refine ⟨fun y hy => ?_, ?_⟩
  · rcases List.mem_append.1 hy with hy | hy
    · exact h.ok y hy
    · rw [List.mem_singleton.1 hy]; exact hx
  · rw [List.map_append, List.map_singleton, runE_snoc, ← h.run]
set_option maxHeartbeats 8000000 in
set_option maxRecDepth 100000 in
theorem Back_any (A : Option Addr) (n c : Nat) (V : Nat → Deed) (behind : ByteArray) (w : World) (hA : Came w A n V) (hb : behind.size ≤ 140737488355328) :
    Calls Try.prog 4 #[.slice A n c, .string behind] w fun e w' => e = .returned (.bool true) ∧ Below w.heap.size w w' := by
  have hup := Try.underlying23
  have hup2 := Try.underlying37
  have HA := Aside0.mk hA
  clear hA
  go_enter Try.func4, Try.ntmps4
  go_wp2_with fail
  refine (New_any _).mono ?_
  rintro e w1 ⟨rfl, rfl⟩
  have HE := Aside0.mk (new_at w w.heap.size (Nat.le_refl _))
  have HB := Aside0.mk ((Below.refl w.heap.size w).alloc (Nat.le_refl _) (.cells (encCells newE (.slice none 0 0)) 49))
  generalize w.alloc (.cells (encCells newE (.slice none 0 0)) 49) = w1 at HE HB ⊢
  go_wp2
  go_loopw [6, 7, 8] (fun u i _ wr => ∃ (d : Nat) (v : Value) (s : Enc) (xs : List Deed), d ≤ n ∧ d ≤ 300 ∧ i = .int .i64 d ∧ Aside0 (EncAt wr w.heap.size w.heap.size v s) ∧ Aside0 (DeedsAt wr w.heap.size u xs) ∧ Aside0 (Done s xs) ∧ Aside0 (sizeE s ≤ 1 + 3 * d ∧ xs.length ≤ d) ∧ Aside0 (Below w.heap.size w wr)) (fun _ i _ _ => 300 - (intOf i).toNat)
  case atStart => exact ⟨0, _, newE, [], by omega, by omega, rfl, HE, ⟨Kd.R_nil _ _ _ _ _⟩, ⟨⟨(fun x hx => by cases hx), rfl⟩⟩, ⟨by decide⟩, HB⟩
  case round =>
    obtain ⟨d, v, s, xs, hd, hd2, rfl, HE, HU, HDN, HS, HB⟩ := hrel
    by_cases hlt : d < n ∧ d < 300
    · obtain ⟨l1, l2⟩ := hlt
      have i1 : (d : Int) < (n : Int) := by omega
      have i2 : (d : Int) < 300 := by omega
      obtain ⟨ad, rfl, k0, k1, k2, k3⟩ := HA.out d l1
      rw [Nat.add_zero] at k0
      rw [add_field _ _ 1 (by omega)] at k1
      rw [add_field _ _ 2 (by omega)] at k2
      rw [add_field _ _ 3 (by omega)] at k3
      have HC : Aside0 (∀ W : World, Below w.heap.size w W → W.cell? (ad.add (d * 4)) = some (.bool (V d).b) ∧ W.cell? ⟨(ad.add (d * 4)).block, (ad.add (d * 4)).off + 1, none⟩ = some (.int .i64 (V d).f) ∧ W.cell? ⟨(ad.add (d * 4)).block, (ad.add (d * 4)).off + 2, none⟩ = some (.int .i64 (V d).n) ∧ W.cell? ⟨(ad.add (d * 4)).block, (ad.add (d * 4)).off + 3, none⟩ = some (.int .i64 (V d).t)) := ⟨fun W hW => ⟨pw_cell_below hW k0, pw_cell_below hW k1, pw_cell_below hW k2, pw_cell_below hW k3⟩⟩
      clear k0 k1 k2 k3
      generalize V d = y at HC
      obtain ⟨c0, c1, c2, c3⟩ := HC.out wr HB.out
      cases hyb : y.b with
      | true =>
        rw [hyb] at c0 HC
        by_cases hok : bitsP y.f y.n
        · have hok2 : okDeed y := by unfold okDeed; rw [hyb]; rw [if_pos rfl]; exact hok
          have hpart : partOf y = (y.f, 1, 2 ^ y.n.toNat) := by unfold partOf; rw [hyb]; rw [if_pos rfl]
          have hmore := HDN.out.more y hok2
          rw [hpart] at hmore
          have HMO := Aside0.mk hmore
          have HYB := Aside0.mk hyb
          have HCT := Aside0.mk (Bits_yes y.f y.n s w.heap.size w.heap.size v wr.drew (HE.out.below (below_drew (Below.refl _ _))) HDN.out.fits.1.good HDN.out.fits.2.1 hok (by have := HS.out.1; omega))
          clear hok hok2 hpart hmore hyb
          go_wp2
          go_still_tail 11, (by kernel_rfl)
          go_wp2_with fail
          refine HCT.out.mono ?_
          rintro e w2 ⟨rfl, v2, hE, hM⟩
          have HE2 := Aside0.mk hE
          have HB2 := Aside0.mk ((below_drew HB.out).trans hM.below)
          have HU2 := Aside0.mk ((HU.out.below (below_drew (Below.refl _ _))).moved (HE.out.below (below_drew (Below.refl _ _))) hM)
          have HS2 := Aside0.mk (show _ ∧ _ from ⟨putE_size y.f 1 (2 ^ y.n.toNat) s HDN.out.fits.1.good.count, HS.out⟩)
          clear hE hM c0 c1 c2 c3
          obtain ⟨c0, c1, c2, c3⟩ := HC.out w2 HB2.out
          go_wp2_with (at_builtin; (with_reducible refine deed_list (w0 := w) (B := w.heap.size) (u := u6) (xs := xs) (.tmp 66) (.tmp 71) ⟨true, y.f, y.n, y.t⟩ ?_ ?_ ?_ ?_ ?_ ?_ ?_ ?_ ?_); rfl; rfl; rfl; rfl; exact HU2.out; exact HB2.out; exact HB2.out.size; (have := HS.out.2; omega); intro v1 w3 HU3 HB3 HG3; have HE3 := Aside0.mk (HE2.out.deeds HU2.out HG3.out))
          go_roundw
          case rel => exact ⟨d + 1, v2, _, xs ++ [y], by omega, by omega, by go_num, HE3, by have h := HU3; rw [show (⟨true, y.f, y.n, y.t⟩ : Deed) = y from by rw [← HYB.out]] at h; exact h, HMO, ⟨by have := HS2.out; omega, by simp; have := HS.out.2; omega⟩, HB3⟩
          case measure => simp [intOf]; omega
        · have HCT := Aside0.mk (Bits_no y.f y.n (some ⟨w.heap.size, 0, none⟩) wr.drew (.inr hok))
          clear hok
          go_wp2
          go_still_tail 11, (by kernel_rfl)
          go_wp2_with fail
          refine HCT.out.mono ?_
          rintro e w2 ⟨rfl, ⟨m, rfl⟩⟩
          go_wp2
          go_roundw
          case rel => exact ⟨d + 1, v, s, xs, by omega, by omega, by go_num, ⟨HE.out.below (pw_below_drewN (Below.refl _ _) (1 + m))⟩, ⟨HU.out.below (pw_below_drewN (Below.refl _ _) (1 + m))⟩, HDN, ⟨by have := HS.out.1; omega, by have := HS.out.2; omega⟩, ⟨pw_below_drewN HB.out (1 + m)⟩⟩
          case measure => simp [intOf]; omega
      | false =>
        rw [hyb] at c0 HC
        by_cases hok : mayP y.f y.n y.t
        · have hok2 : okDeed y := by unfold okDeed; rw [hyb]; rw [if_neg (by decide)]; exact hok
          have hpart : partOf y = (y.f, y.n, y.t) := by unfold partOf; rw [hyb]; rw [if_neg (by decide)]
          have hmore := HDN.out.more y hok2
          rw [hpart] at hmore
          have HMO := Aside0.mk hmore
          have HYB := Aside0.mk hyb
          have HCT := Aside0.mk (Put_yes y.f y.n y.t s w.heap.size w.heap.size v wr.drew (HE.out.below (below_drew (Below.refl _ _))) HDN.out.fits.1.good HDN.out.fits.2.1 hok (by have := HS.out.1; omega))
          clear hok hok2 hpart hmore hyb
          go_wp2
          go_still_tail 16, (by kernel_rfl)
          go_wp2_with fail
          refine HCT.out.mono ?_
          rintro e w2 ⟨rfl, v2, hE, hM⟩
          have HE2 := Aside0.mk hE
          have HB2 := Aside0.mk ((below_drew HB.out).trans hM.below)
          have HU2 := Aside0.mk ((HU.out.below (below_drew (Below.refl _ _))).moved (HE.out.below (below_drew (Below.refl _ _))) hM)
          have HS2 := Aside0.mk (show _ ∧ _ from ⟨putE_size y.f y.n y.t s HDN.out.fits.1.good.count, HS.out⟩)
          clear hE hM c0 c1 c2 c3
          obtain ⟨c0, c1, c2, c3⟩ := HC.out w2 HB2.out
          go_wp2_with (at_builtin; (with_reducible refine deed_list (w0 := w) (B := w.heap.size) (u := u6) (xs := xs) (.tmp 66) (.tmp 71) ⟨false, y.f, y.n, y.t⟩ ?_ ?_ ?_ ?_ ?_ ?_ ?_ ?_ ?_); rfl; rfl; rfl; rfl; exact HU2.out; exact HB2.out; exact HB2.out.size; (have := HS.out.2; omega); intro v1 w3 HU3 HB3 HG3; have HE3 := Aside0.mk (HE2.out.deeds HU2.out HG3.out))
          go_roundw
          case rel => exact ⟨d + 1, v2, _, xs ++ [y], by omega, by omega, by go_num, HE3, by have h := HU3; rw [show (⟨false, y.f, y.n, y.t⟩ : Deed) = y from by rw [← HYB.out]] at h; exact h, HMO, ⟨by have := HS2.out; omega, by simp; have := HS.out.2; omega⟩, HB3⟩
          case measure => simp [intOf]; omega
        · have HCT := Aside0.mk (Put_no y.f y.n y.t (some ⟨w.heap.size, 0, none⟩) wr.drew (.inr hok))
          clear hok
          go_wp2
          go_still_tail 16, (by kernel_rfl)
          go_wp2_with fail
          refine HCT.out.mono ?_
          rintro e w2 ⟨rfl, ⟨m, rfl⟩⟩
          go_wp2
          go_roundw
          case rel => exact ⟨d + 1, v, s, xs, by omega, by omega, by go_num, ⟨HE.out.below (pw_below_drewN (Below.refl _ _) (1 + m))⟩, ⟨HU.out.below (pw_below_drewN (Below.refl _ _) (1 + m))⟩, HDN, ⟨by have := HS.out.1; omega, by have := HS.out.2; omega⟩, ⟨pw_below_drewN HB.out (1 + m)⟩⟩
          case measure => simp [intOf]; omega
    · have hlt2 : ¬ ((d : Int) < (n : Int)) ∨ ¬ ((d : Int) < 300) := by omega
      have HF := Aside0.mk HDN.out.fits
      have HFS := Aside0.mk (finish_size s HDN.out.fits.1)
      have HN := Aside0.mk (finish_ends s HDN.out.fits.1 behind)
      clear hlt
      go_wp2_with fail
      all_goals first
        | (exfalso; omega)
        | skip
      all_goals
        refine (Finish_any s w.heap.size w.heap.size v wr HE.out HF.out.1.good (by have := HS.out.1; omega)).mono ?_
        rintro e w2 ⟨rfl, v2, hE, hM⟩
        have HB2 := Aside0.mk (HB.out.trans hM.below)
        have HU2 := Aside0.mk (HU.out.moved HE.out hM)
        clear hE hM HE HU
        have hsz : (finishS s).size ≤ 1000 := by rw [HFS.out]; have := HS.out.1; omega
        obtain ⟨S, hS⟩ : ∃ S, finishS s = S := ⟨_, rfl⟩
        rw [hS] at hsz ⊢
        rw [hS] at HN HFS
        have hct : (S ++ behind).size ≤ 9223372036854775807 := by rw [ByteArray.size_append]; omega
        have hcat : S.size + behind.size ≤ 9223372036854775807 := by omega
        go_wp2_with fail
        refine (Of_any (S ++ behind) hct w.heap.size w2 HB2.out.size).mono ?_
        rintro e w3 ⟨g, rfl, hg, hD, hBo⟩
        have HD3 := Aside0.mk hD
        have HG := Aside0.mk (Nat.le_trans HB2.out.size hg)
        have HB3 := Aside0.mk (HB2.out.trans (hBo.mono HB2.out.size))
        have HU3 := Aside0.mk (HU2.out.below hBo)
        have HSIM := Aside0.mk (start_sim s HF.out.1 HF.out.2.2 (S ++ behind) HN.out)
        have hxl : xs.length ≤ 300 := by have := HS.out.2; omega
        clear hD hg hBo HB2 HU2 hct hcat
        go_wp2
        go_loopw [11] (fun i wr => ∃ (k : Nat) (dd : Dec), k ≤ xs.length ∧ i = .int .i64 k ∧ Aside0 (DecAt wr g dd) ∧ Aside0 (GoodD dd) ∧ Aside0 (Sim (runE ((xs.take k).map partOf) newE) dd) ∧ Aside0 (dd.s = S ++ behind) ∧ Aside0 (DeedsAt wr w.heap.size u6 xs) ∧ Aside0 (Below w.heap.size w wr)) (fun i _ => xs.length - (intOf i).toNat)
        case atStart => exact ⟨0, ofD (S ++ behind), by omega, rfl, HD3, ⟨ofD_ok _⟩, ⟨HSIM.out.1⟩, ⟨HSIM.out.2⟩, HU3, HB3⟩
        case round =>
          obtain ⟨k, dd, hk, rfl, HD, HGD, HSM, HDS, HU, HB⟩ := hrel
          obtain ⟨A2, cc, rfl, hl2, hC⟩ := Kd.R_reads HU.out
          have HCC := Aside0.mk hC
          clear hC
          by_cases hlt : k < xs.length
          · have i1 : (k : Int) < (xs.length : Int) := by omega
            obtain ⟨y, hy⟩ : ∃ y, xs[k]? = some y := ⟨xs[k], List.getElem?_eq_getElem hlt⟩
            have HST := Aside0.mk (step_sim HDN.out.ok HDN.out.run k y hy dd HSM.out (by rw [HDS.out]; exact HN.out))
            have HSB := Aside0.mk (step_bits HDN.out.ok HDN.out.run k y hy dd HSM.out (by rw [HDS.out]; exact HN.out))
            have HOK := Aside0.mk (HDN.out.ok y (by obtain ⟨_, e⟩ := List.getElem?_eq_some_iff.1 hy; exact e ▸ List.getElem_mem hlt))
            obtain ⟨ad, rfl, hel⟩ := HCC.out.2.2 (by omega)
            obtain ⟨cs, _, hK, hcell⟩ := hel k y hy
            rw [kD_open hK] at hcell
            have k0 : wr.cell? (ad.add (k * kD.sz + 0)) = some (Value.bool y.b) := hcell 0 _ rfl
            have k1 : wr.cell? (ad.add (k * kD.sz + 1)) = some (Value.int .i64 y.f) := hcell 1 _ rfl
            have k2 : wr.cell? (ad.add (k * kD.sz + 2)) = some (Value.int .i64 y.n) := hcell 2 _ rfl
            have k3 : wr.cell? (ad.add (k * kD.sz + 3)) = some (Value.int .i64 y.t) := hcell 3 _ rfl
            have e4 : kD.sz = 4 := rfl
            rw [e4] at k0 k1 k2 k3
            rw [Nat.add_zero] at k0
            rw [add_field _ _ 1 (by omega)] at k1
            rw [add_field _ _ 2 (by omega)] at k2
            rw [add_field _ _ 3 (by omega)] at k3
            clear hel hcell hK hy
            cases hyb : y.b with
            | true =>
              have hsb := HSB.out hyb
              have HSB2 := Aside0.mk hsb
              rw [hyb] at k0
              clear hsb hyb
              have HD4 := Aside0.mk (HD.out.below (below_alloc (Below.refl wr.heap.size wr) (.cells #[.bool true, .int .i64 y.f, .int .i64 y.n, .int .i64 y.t] 28)))
              have HU4 := Aside0.mk (HU.out.below (below_alloc (Below.refl wr.heap.size wr) (.cells #[.bool true, .int .i64 y.f, .int .i64 y.n, .int .i64 y.t] 28)))
              have HB4 := Aside0.mk (HB.out.alloc HB.out.size (.cells #[.bool true, .int .i64 y.f, .int .i64 y.n, .int .i64 y.t] 28))
              have HY4 := Aside0.mk (blk_new wr (.cells #[.bool true, .int .i64 y.f, .int .i64 y.n, .int .i64 y.t] 28))
              have hgne : g < wr.heap.size := blk_lt HD.out
              go_wp2_with fail
              refine (BitsD_any dd y.n HGD.out (by rw [HDS.out, ByteArray.size_append]; omega) w.heap.size g HG.out _ HD4.out).mono ?_
              rintro e w4 ⟨rfl, hD5, hT5⟩
              have HD5 := Aside0.mk hD5
              have HU5 := Aside0.mk (HU4.out.turned HD4.out hT5)
              have HB5 := Aside0.mk (HB4.out.trans hT5.below)
              have hy5 := blk_kept HY4.out hT5.kept (by omega)
              have q1 : w4.cell? ⟨wr.heap.size, 1, none⟩ = some (.int .i64 y.f) := blk_cell hy5 1
              rw [HSB2.out.1, HSB2.out.2.1]
              clear hD5 hT5 hy5 k0 k1 k2 k3
              go_wp2
              go_roundw
              case rel => exact ⟨k + 1, _, by omega, by go_num, HD5, ⟨bitsD_good _ _ HGD.out⟩, ⟨HSB2.out.2.2.1⟩, ⟨HSB2.out.2.2.2.trans HDS.out⟩, HU5, HB5⟩
              case measure => simp [intOf]; omega
            | false =>
              have hst := HST.out
              have hok := HOK.out
              have hpart : partOf y = (y.f, y.n, y.t) := by unfold partOf; rw [hyb]; rw [if_neg (by decide)]
              unfold okDeed at hok
              rw [hyb, if_neg (by decide)] at hok
              rw [hpart] at hst
              obtain ⟨m1, m2, m3, m4, m5, m6⟩ := hok
              have z2 : y.f ≤ (peekD dd y.t).1 := hst.2.1
              have z3 : (peekD dd y.t).1 < y.f + y.n := hst.2.2.1
              have hpe : (peekD dd y.t).2 = 0 := hst.1
              have HTK := Aside0.mk hst.2.2.2
              rw [hyb] at k0
              clear hst hyb hpart
              have HD4 := Aside0.mk (HD.out.below (below_alloc (Below.refl wr.heap.size wr) (.cells #[.bool false, .int .i64 y.f, .int .i64 y.n, .int .i64 y.t] 28)))
              have HU4 := Aside0.mk (HU.out.below (below_alloc (Below.refl wr.heap.size wr) (.cells #[.bool false, .int .i64 y.f, .int .i64 y.n, .int .i64 y.t] 28)))
              have HB4 := Aside0.mk (HB.out.alloc HB.out.size (.cells #[.bool false, .int .i64 y.f, .int .i64 y.n, .int .i64 y.t] 28))
              have HY4 := Aside0.mk (blk_new wr (.cells #[.bool false, .int .i64 y.f, .int .i64 y.n, .int .i64 y.t] 28))
              have hgne : g < wr.heap.size := blk_lt HD.out
              have hpk := fun W h => Peek_any dd y.t g W h HGD.out
              rw [hpe] at hpk
              obtain ⟨x, hx⟩ : ∃ x, (peekD dd y.t).1 = x := ⟨_, rfl⟩
              rw [hx] at hpk z2 z3
              have HPK := Aside0.mk hpk
              clear hpk hpe hx
              go_wp2_with fail
              refine (HPK.out _ HD4.out).mono ?_
              rintro e w4 ⟨rfl, hdr⟩
              obtain ⟨m, hm⟩ := hdr
              have HD5 := Aside0.mk (show DecAt w4 g dd from hm ▸ HD4.out.below (pw_below_drewN (Below.refl _ _) m))
              have HU5 := Aside0.mk (show DeedsAt w4 w.heap.size _ xs from hm ▸ HU4.out.below (pw_below_drewN (Below.refl _ _) m))
              have HB5 := Aside0.mk (show Below w.heap.size w w4 from hm ▸ pw_below_drewN HB4.out m)
              have hy5 : w4.heap[wr.heap.size]? = some (.cells #[.bool false, .int .i64 y.f, .int .i64 y.n, .int .i64 y.t] 28 (0, 0)) := hm ▸ HY4.out
              have q1 : w4.cell? ⟨wr.heap.size, 1, none⟩ = some (.int .i64 y.f) := blk_cell hy5 1
              have q2 : w4.cell? ⟨wr.heap.size, 2, none⟩ = some (.int .i64 y.n) := blk_cell hy5 2
              have q3 : w4.cell? ⟨wr.heap.size, 3, none⟩ = some (.int .i64 y.t) := blk_cell hy5 3
              clear hm hy5 k0 k1 k2 k3
              go_wp2_with fail
              refine (Take_any dd y.f y.n y.t HGD.out (by rw [HDS.out, ByteArray.size_append]; omega) w.heap.size g HG.out _ HD5.out).mono ?_
              rintro e w5 ⟨rfl, hD6, hT6⟩
              have HD6 := Aside0.mk hD6
              have HU6 := Aside0.mk (HU5.out.turned HD5.out hT6)
              have HB6 := Aside0.mk (HB5.out.trans hT6.below)
              rw [HTK.out.1]
              clear hD6 hT6 q1 q2 q3
              go_wp2
              go_roundw
              case rel => exact ⟨k + 1, _, by omega, by go_num, HD6, ⟨takeD_good _ _ _ _ HGD.out⟩, ⟨HTK.out.2.1⟩, ⟨HTK.out.2.2.trans HDS.out⟩, HU6, HB6⟩
              case measure => simp [intOf]; omega
          · obtain rfl : k = xs.length := by omega
            have hpos : dd.pos = (S.size : Int) := by
              have h1 := HSM.out.pos
              rw [List.take_length, ← HDN.out.run] at h1
              rw [h1, HFS.out]
            have hu := Used_any dd g
            rw [hpos] at hu
            have HUS := Aside0.mk hu
            clear hu hpos
            go_wp2_with fail
            refine (HUS.out _ HD.out).mono ?_
            rintro e w4 ⟨rfl, ⟨m, rfl⟩⟩
            go_wp2_with fail
            refine (awake_any _).mono ?_
            rintro e w5 ⟨rfl, hB5⟩
            have HB5 := Aside0.mk ((pw_below_drewN HB.out m).trans (hB5.mono (pw_below_drewN HB.out m).size))
            clear hB5
            go_wp2
            go_ret
            exact ⟨rfl, HB5.out⟩
end Go.Proofs.Ytaojnjjajnbgoaa.Hand
