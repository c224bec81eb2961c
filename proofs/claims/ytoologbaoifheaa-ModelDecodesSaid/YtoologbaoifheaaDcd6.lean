/- Texts of this claim's proof, laid behind each other: Contracts of layer 19, proved by hand: the reference's Encode; Contracts of layer 19, proved by hand: the reference's decoder of a text; rows beside the counts; Contracts of layer 19, proved by hand: the reference's Decode; Contracts of layer 19, proved by hand: ModelDecodes -/
import Derived.Test.YtoologbaoifheaaDcd5
/- Contracts of layer 19, proved by hand: the reference's Encode. -/
namespace Go.Proofs.Ytoologbaoifheaa.Hand
open Go.RowKit Go.Proofs.Ytoologbaoifheaa.Q Go.Proofs.Ytoologbaoifheaa.Math Go.Proofs.YtoologbaoifheaaW.PrintWords Go.Proofs.YtoologbaoifheaaW.PrintLast Go.Proofs.YtoologbaoifheaaW.PrintMore
set_option linter.unusedVariables false
set_option linter.unusedSimpArgs false

theorem byte_E : ∀ q, q ∈ 5 :: (Kd.int .u8).E → q = 5 := by
  intro q hq
  simpa [Kd.int, Kd.scalar] using hq
/-- The reference's encoder's call leaves a row of numbers. -/
theorem IntsAt.enc {w w' : World} {B B2 g : Nat} {u v v' : Value} {E : Enc} {xs : List Int} (h : IntsAt w B u xs) (he : RefAt w B2 g v E) (hm : Moved B2 g w v w' v') : IntsAt w' B u xs := by
  have h1 := Kd.R_types h he.1 (fun q hq => by rw [int_E q hq]; decide)
  have h2 := Kd.R_apartR h1 he.2.1 (fun q hq => by rw [int_E q hq]; decide)
  refine .of (Kd.R_kept h2 hm.kept ?_)
  rintro k ⟨⟨_, hk1⟩, hk2⟩ hs
  rcases hs with hs | hs
  · exact hk1 hs
  · exact hk2 hs.symm
theorem RCAt.enc {w w' : World} {B B2 g gc : Nat} {u v v' : Value} {E : Enc} {c : List Int} {s : Int} (h : RCAt w B gc u c s) (he : RefAt w B2 g v E) (hm : Moved B2 g w v w' v') : RCAt w' B gc u c s := by
  refine ⟨blk_kept h.1 hm.kept (fun hk => ?_), h.2.1.enc he hm, h.2.2⟩
  rcases hk with e | e
  · have h1 := he.1
    rw [← e, h.1] at h1
    injection h1 with h1
    injection h1 with h1 h2
    exact absurd h2 (by decide)
  · exact (Kd.R_ne he.2.1.all h.1 (by decide)) e.symm
/-- The counts' call leaves the reference's encoder. -/
theorem RefAt.cnt {w w' : World} {B B2 g gc : Nat} {u u' v : Value} {E : Enc} {c : List Int} {s : Int} (h : RefAt w B g v E) (hc : RCAt w B2 gc u c s) (hm : Moved B2 gc w u w' u') : RefAt w' B g v E := by
  refine ⟨blk_kept h.1 hm.kept (fun hk => ?_), ?_, h.2.2⟩
  · rcases hk with e | e
    · have h1 := hc.1
      rw [← e, h.1] at h1
      injection h1 with h1
      injection h1 with h1 h2
      exact absurd h2 (by decide)
    · exact (Kd.R_ne hc.2.1.all h.1 (by decide)) e.symm
  · have h1 := Kd.R_types h.2.1 hc.1 (fun q hq => by rw [byte_E q hq]; decide)
    have h2 := Kd.R_apartR h1 hc.2.1 (fun q hq => by rw [byte_E q hq]; decide)
    refine BytesAt.of (Kd.R_kept h2 hm.kept ?_)
    rintro k ⟨⟨_, hk1⟩, hk2⟩ hs
    rcases hs with hs | hs
    · exact hk1 hs
    · exact hk2 hs.symm
theorem Moved.base {B B2 g : Nat} {w w1 : World} {v v1 : Value} (h : Moved B g w v w1 v1) (hb : B2 ≤ B) : Moved B2 g w v w1 v1 := ⟨h.below.mono hb, h.kept, h.own⟩
theorem rmask (u R W : Nat) (hu : u < 2 ^ 41) (hW : W ≤ 16) : Go.bits .and .i64 ((u : Int) / 2 ^ R) (IntKind.i64.wrap (IntKind.i64.wrap (2 ^ W) - 1)) = ((u / 2 ^ R % 2 ^ W : Nat) : Int) := by
  have hud : u / 2 ^ R < 2 ^ 41 := Nat.lt_of_le_of_lt (Nat.div_le_self _ _) hu
  have h := mask_i64 (u / 2 ^ R) W hud hW
  rw [show ((u / 2 ^ R : Nat) : Int) = (u : Int) / 2 ^ R by simp] at h
  exact h
set_option maxHeartbeats 8000000 in
set_option maxRecDepth 100000 in
theorem REncode_any (l : List Int) (A : Option Addr) (c : Nat) (w : World) (hr : ReadsInt w .i64 A l.length l) (hl : l.length ≤ 1000000) (hin : ∀ n ∈ l, -9223372036854775808 ≤ n ∧ n ≤ 9223372036854775807) :
    Calls Try.prog 14 #[.slice A l.length c] w fun e w' => e = .returned (.tuple #[.string (encF l).1, .int .i64 (encF l).2]) ∧ Below w.heap.size w w' := by
  have hup := Try.underlying57
  have hup2 := Try.underlying59
  have HR := Aside0.mk hr
  have HI := Aside0.mk hin
  have HF : Aside0 (encF l = if ∀ n ∈ l, inB n then (finishS (runS l).e, 0) else (⟨#[]⟩, 1)) := ⟨rfl⟩
  clear hr hin
  go_enter Try.func14, Try.ntmps14
  go_wp2
  go_loopw [4] (fun iv wr => ∃ i : Nat, i ≤ l.length ∧ iv = .int .i64 i ∧ Aside0 (∀ n ∈ l.take i, inB n) ∧ wr = w) (fun iv _ => l.length - (intOf iv).toNat)
  case atStart => exact ⟨0, by omega, rfl, ⟨fun n hn => by simp at hn⟩, rfl⟩
  case round =>
    obtain ⟨i, hi, rfl, HB, hww⟩ := hrel
    have hw2 := hww.symm
    clear hww
    subst hw2
    by_cases hlt : i < l.length
    · have i0 : (0 : Int) ≤ (i : Int) := by omega
      have i1 : (i : Int) < (l.length : Int) := by omega
      obtain ⟨ad, rfl, hx⟩ := HR.out.at_ (i : Int) (by omega) i1
      rw [Int.toNat_natCast] at hx
      have ht : l.take (i + 1) = l.take i ++ [rd l (i : Int)] := by
        rw [List.take_succ_eq_append_getElem hlt]
        simp [rd, hlt]
      have hm : rd l (i : Int) ∈ l := by simp [rd, hlt]
      have hxi := HI.out _ hm
      have HMEM := Aside0.mk hm
      generalize rd l (i : Int) = x at hx ht hxi HMEM
      clear hm
      by_cases hb : inB x
      · have HB2 : Aside0 (∀ n ∈ l.take (i + 1), inB n) := ⟨fun n hn => by
          rw [ht] at hn
          rcases List.mem_append.1 hn with hn | hn
          · exact HB.out n hn
          · rw [List.mem_singleton.1 hn]; exact hb⟩
        have b1 : ¬ 1099511627776 ≤ x := by unfold inB at hb; omega
        have b2 : ¬ x < -1099511627776 := by unfold inB at hb; omega
        clear ht hb
        go_wp2
        go_roundw
        case rel => exact ⟨i + 1, by omega, by go_num, HB2, by trivial⟩
        case measure => simp [intOf]; omega
      · have hq : 1099511627776 ≤ x ∨ (¬ 1099511627776 ≤ x ∧ x < -1099511627776) := by unfold inB at hb; omega
        have HRES : Aside0 (encF l = (⟨#[]⟩, 1)) := ⟨by rw [HF.out, if_neg (fun q => hb (q x HMEM.out))]⟩
        clear ht hb
        rcases hq with hq | ⟨hq, hq2⟩
        all_goals
          go_wp2
          go_ret2
          rw [HRES.out]
          exact ⟨rfl, Below.refl _ _⟩
    · obtain rfl : i = l.length := by omega
      rw [List.take_length] at HB
      have HRES : Aside0 (encF l = (finishS (runS l).e, 0)) := ⟨by rw [HF.out, if_pos HB.out]⟩
      clear HF
      go_wp2_with fail
      refine (RNew_any _).mono ?_
      rintro e w1 ⟨rfl, rfl⟩
      have HE1 := Aside0.mk (rnew_at w w.heap.size (Nat.le_refl _))
      have HB1 : Aside0 (Below w.heap.size w (w.alloc (.cells (refCells newE (.slice none 0 0)) 87))) := ⟨below_alloc (Below.refl _ _) _⟩
      generalize w.alloc (.cells (refCells newE (.slice none 0 0)) 87) = w1 at HE1 HB1 ⊢
      go_wp2_with fail
      refine (rbegin_any _).mono ?_
      rintro e w2 ⟨rfl, u2, hC, hB⟩
      have HC2 := Aside0.mk (hC.lower HB1.out.size)
      have HE2 := Aside0.mk (HE1.out.below hB)
      have HB2 := Aside0.mk (HB1.out.trans (hB.mono HB1.out.size))
      clear hC hB HE1 HB1
      obtain ⟨b, hbb⟩ : ∃ b, w.heap.size = b := ⟨_, rfl⟩
      have HBB := Aside0.mk hbb
      rw [hbb] at HE2 HB2 HC2 ⊢
      clear hbb
      generalize w1.heap.size = gc at HC2 ⊢
      go_wp2
      go_loopw [7] (fun iv wq => ∃ (i : Nat) (v u : Value), i ≤ l.length ∧ iv = .int .i64 i ∧ Aside0 (RefAt wq b b v (runS (l.take i)).e) ∧ Aside0 (RCAt wq b gc u (runS (l.take i)).c (runS (l.take i)).s) ∧ Aside0 (Below b w wq)) (fun iv _ => l.length - (intOf iv).toNat)
      case atStart => exact ⟨0, _, u2, by omega, rfl, HE2, HC2, HB2⟩
      case round =>
        clear HE2 HC2 HB2 hlt hi
        obtain ⟨i, v, u0, hi, rfl, HE, HC, HBW⟩ := hrel
        by_cases hlt : i < l.length
        · have i0 : (0 : Int) ≤ (i : Int) := by omega
          have i1 : (i : Int) < (l.length : Int) := by omega
          obtain ⟨ad, rfl, hx⟩ := (HR.out.below (by rw [HBB.out]; exact HBW.out)).at_ (i : Int) (by omega) i1
          rw [Int.toNat_natCast] at hx
          have ht : l.take (i + 1) = l.take i ++ [rd l (i : Int)] := by
            rw [List.take_succ_eq_append_getElem hlt]
            simp [rd, hlt]
          have hm : rd l (i : Int) ∈ l := by simp [rd, hlt]
          have hxi := HI.out _ hm
          have hxb := HB.out _ hm
          have hok := run_ok (l.take i) (fun n hn => HB.out n (List.mem_of_mem_take hn))
          have hlen : (l.take i).length = i := by rw [List.length_take]; omega
          rw [hlen] at hok
          have hnx := runS_snoc (l.take i) (rd l (i : Int))
          rw [← ht] at hnx
          generalize rd l (i : Int) = x at hx hxi hxb hnx
          generalize runS (l.take i) = t at HE HC hok hnx
          have hk := class_lt x hxb
          obtain ⟨hu1, hu2⟩ := numU_lt x hxb
          have hst : stepS t x = ⟨lowE (numU x) 42 (blen (numU x) - 1) (putE (belowC t.c (blen (numU x))) (t.c.getD (blen (numU x)) 0) t.s t.e), (sawC t.c t.s (blen (numU x))).1, (sawC t.c t.s (blen (numU x))).2⟩ := rfl
          rw [hst] at hnx
          have HFO := Aside0.mk (fun W => lacquerref19_Fold.calls x _ W (rfoldM_eq x hxi.1 hxi.2))
          rw [hu2] at HFO
          generalize numU x = u at hk hu1 hnx HFO
          have HLE := Aside0.mk (fun W => RClass_any u hu1 W)
          obtain ⟨k, hkk⟩ : ∃ k, blen u = k := ⟨_, rfl⟩
          rw [hkk] at hk hnx HLE
          have HNX := Aside0.mk hnx
          have HOK := Aside0.mk hok
          have HU1 := Aside0.mk hu1
          clear ht hm hlen hnx hok hst hkk hxi hxb hu1 hu2
          go_wp2_with fail
          with_reducible refine (HFO.out _).mono ?_
          rintro e w3 ⟨rfl, hd3⟩
          go_wp2_with fail
          with_reducible refine (HLE.out _).mono ?_
          rintro e w4 ⟨rfl, hd4⟩
          have HE4 := Aside0.mk ((HE.out.below hd3.below).below hd4.below)
          have HC4 := Aside0.mk ((HC.out.below hd3.below).below hd4.below)
          have HB4 : Aside0 (Below b w w4) := ⟨(HBW.out.trans (hd3.below.mono (by have := HE.out.lt; omega))).trans (hd4.below.mono (by have := (HE.out.below hd3.below).lt; omega))⟩
          clear hd3 hd4 hx HE HC HBW HFO HLE
          have hc42 := HOK.out.cnt.len
          obtain ⟨bb, cap, hu0, hcap, hcl, _, _, _⟩ := HC4.out.2.1.place 0 (by omega)
          rw [hc42] at hu0 hcl
          have c0 : w4.cell? ⟨gc, 0, none⟩ = some u0 := HC4.out.cell 0
          have cT : w4.cell? ⟨gc, 1, none⟩ = some (.int .i64 t.s) := HC4.out.cell 1
          have cK : w4.cell? ⟨bb, k, none⟩ = some (.int .i64 (t.c.getD k 0)) := hcl k hk
          rw [hu0] at c0
          have HPM := Aside0.mk (HOK.out.cnt.part k hk)
          have HPO := Aside0.mk (put_ok _ _ _ HOK.out.fit HOK.out.wid HOK.out.size HPM.out)
          have HPC := Aside0.mk (fun X (hX : RefAt X b b v t.e) => RPut_yes (belowC t.c k) (t.c.getD k 0) t.s t.e b b v X hX HOK.out.fit.good HOK.out.wid HPM.out (by have := HOK.out.size; omega))
          have HSB := Aside0.mk (rbelow_still t.c t.s HOK.out.cnt.small hc42 k (by omega) b gc u0 w4.drew (HC4.out.below (below_drew (Below.refl _ _))))
          obtain ⟨f0, hf0⟩ : ∃ f0, belowC t.c k = f0 := ⟨_, rfl⟩
          obtain ⟨n0, hn0⟩ : ∃ n0, t.c.getD k 0 = n0 := ⟨_, rfl⟩
          rw [hf0, hn0] at HPO HPC HNX
          rw [hf0] at HSB
          rw [hn0] at cK
          have k0 : (0 : Int) ≤ (k : Int) := by omega
          have k1 : (k : Int) < 42 := by omega
          clear hf0 hn0 hcl
          go_wp2
          go_still_tail 15, (by kernel_rfl)
          still_call HSB.out
          repeat still_step
          refine wpStill_nil ?_
          have HE5 := Aside0.mk (HE4.out.below (below_drew (Below.refl _ _)))
          have HC5 := Aside0.mk (HC4.out.below (below_drew (Below.refl _ _)))
          have HB5 : Aside0 (Below b w w4.drew) := ⟨below_drew HB4.out⟩
          clear c0 cT cK HE4 HC4 HB4 HSB
          change wpList _ _ _ _ _ w4.drew
          generalize w4.drew = w5 at HE5 HC5 HB5 ⊢
          go_wp2_with fail
          with_reducible refine (HPC.out _ HE5.out).mono ?_
          rintro e w6 ⟨rfl, v6, hE, hM⟩
          have HE6 := Aside0.mk hE
          have HC6 := Aside0.mk (HC5.out.enc HE5.out hM)
          have HB6 := Aside0.mk (HB5.out.trans hM.below)
          clear hE hM HE5 HC5 HB5 HPC HPM
          generalize putE f0 n0 t.s t.e = E0 at HE6 HPO HNX
          obtain ⟨q1, q2, q3⟩ := HPO.out
          have HQ := Aside0.mk (And.intro q1 (And.intro q2 q3))
          clear q1 q2 q3 HPO
          obtain ⟨E9, hE9⟩ : ∃ E9, lowE u 42 (k - 1) E0 = E9 := ⟨_, rfl⟩
          rw [hE9] at HNX
          have HE9 := Aside0.mk hE9
          clear hE9
          have ekl : IntKind.i64.wrap ((k : Int) - 1) = (k : Int) - 1 := by rw [IntKind.wrap_i64]; omega
          have HKK := Aside0.mk hk
          go_wp2_with fail
          with_reducible refine (RPieces_any k hk w6).mono ?_
          rintro e w7 ⟨vp, rfl, hP, hB7⟩
          have HE7 := Aside0.mk (HE6.out.below hB7)
          have HC7 := Aside0.mk (HC6.out.below hB7)
          have HP7 := Aside0.mk hP
          have HB7 : Aside0 (Below b w w7) := ⟨HB6.out.trans (hB7.mono (by have := HE6.out.lt; omega))⟩
          have hb6 : b ≤ w6.heap.size := by have := HE6.out.lt; have := HE6.out.2.2; omega
          clear hP hB7 HE6 HC6 HB6
          obtain ⟨Ap, cp, rfl, hcp, _⟩ := HP7.out.C
          have hfew := cutL_few (k - 1) (by omega)
          obtain ⟨m, hm⟩ : ∃ m, (cutL (k - 1)).length = m := ⟨_, rfl⟩
          rw [hm] at hcp hfew HP7 ⊢
          have HMM := Aside0.mk hm
          clear hm
          go_wp2
          go_loopw [11, 12] (fun lv jv wr => ∃ (j : Nat) (z : Int) (E : Enc) (v' : Value), j ≤ m ∧ jv = .int .i64 j ∧ lv = .int .i64 z ∧ (0 ≤ z ∨ k = 0) ∧ z < 42 ∧ Aside0 ((cutL (k - 1)).drop j = cutL z.toNat) ∧ Aside0 (lowE u (42 - j) z.toNat E = E9) ∧ Aside0 (RefAt wr b b v' E) ∧ Aside0 (RCAt wr b gc u0 t.c t.s) ∧ Aside0 (IntsAt wr b (.slice Ap m cp) (cutL (k - 1))) ∧ Aside0 (Below b w wr) ∧ Aside0 (Fits E ∧ 16777216 ≤ E.width ∧ sizeE E ≤ 1 + 129 * i + 3 + 3 * j)) (fun _ jv _ => m - (intOf jv).toNat)
          case atStart =>
            exact ⟨0, (k : Int) - 1, E0, v6, by omega, rfl, rfl, by omega, by omega, ⟨by rw [show ((k : Int) - 1).toNat = k - 1 by omega]; rfl⟩, ⟨by rw [show ((k : Int) - 1).toNat = k - 1 by omega]; exact HE9.out⟩, HE7, HC7, ⟨HP7.out.lower hb6⟩, HB7, ⟨HQ.out.1, HQ.out.2.1, by have := HQ.out.2.2; omega⟩⟩
          case round =>
            clear HE7 HC7 HB7 HP7 HQ HE9
            obtain ⟨j, z, E, v', hj, rfl, rfl, hz0, hz1, HD, HL, HE, HC, HP, HBW, HQ⟩ := hrel
            obtain ⟨L, hzL⟩ : ∃ L, z.toNat = L := ⟨_, rfl⟩
            rw [hzL] at HD HL
            have hL : L < 42 := by omega
            by_cases hjm : j < m
            · have j0 : (0 : Int) ≤ (j : Int) := by omega
              have j1 : (j : Int) < (m : Int) := by omega
              have hcons : cutL L ≠ [] := by
                rw [← HD.out]
                intro e
                have := congrArg List.length e
                rw [List.length_drop, HMM.out, List.length_nil] at this
                omega
              have hLp : 0 < L := by
                rcases Nat.eq_zero_or_pos L with h0 | h0
                · subst h0
                  exact absurd rfl hcons
                · exact h0
              have hzn : z = (L : Int) := by omega
              subst hzn
              have hk2 : 2 ≤ k := by
                rcases Nat.lt_or_ge k 2 with h2 | h2
                · exfalso
                  have hk1 : k - 1 = 0 := by omega
                  have := HD.out
                  rw [hk1, show cutL 0 = [] from rfl, List.drop_nil] at this
                  exact hcons this.symm
                · exact h2
              have hk2' : (2 : Int) ≤ (k : Int) := by omega
              have hcc := cutL_cons L hLp
              have hlow : lowE u (42 - j) L E = lowE u (42 - (j + 1)) (L - ((L - 1) % 16 + 1)) (putE ((u / 2 ^ (L - ((L - 1) % 16 + 1)) % 2 ^ ((L - 1) % 16 + 1) : Nat) : Int) 1 (2 ^ ((L - 1) % 16 + 1)) E) := by
                obtain ⟨f, hf⟩ : ∃ f, 42 - j = f + 1 := ⟨41 - j, by omega⟩
                rw [hf, show 42 - (j + 1) = f by omega]
                show (if L = 0 then E else _) = _
                rw [if_neg (by omega)]
              have hbp := low_piece u L hLp
              obtain ⟨W, hW⟩ : ∃ W, (L - 1) % 16 + 1 = W := ⟨_, rfl⟩
              obtain ⟨R, hR⟩ : ∃ R, L - W = R := ⟨_, rfl⟩
              rw [hW, hR] at hlow hcc hbp
              have w1 : 1 ≤ W ∧ W ≤ 16 := by omega
              obtain ⟨w1, w2⟩ := w1
              obtain ⟨A9, c9, e9, _, hC9⟩ := HP.out.C
              injection e9 with e9 e10 e11
              subst e9
              clear e10 e11
              obtain ⟨adp, rfl, hxp⟩ := (Kd.reads_of_C (d := (0 : Int)) (enc := Value.int .i64) hC9).at_ (j : Int) j0 (by rw [HMM.out]; exact j1)
              rw [Int.toNat_natCast] at hxp
              have hval : rdOf 0 (cutL (k - 1)) (j : Int) = (W : Int) := by
                have h1 := HD.out
                rw [hcc] at h1
                have h2 : (cutL (k - 1))[j]? = some (W : Int) := by
                  have := congrArg (fun l => l[0]?) h1
                  simpa [List.getElem?_drop] using this
                simp [rdOf, h2]
              have hdr : (cutL (k - 1)).drop (j + 1) = cutL R := by
                have h1 := congrArg List.tail (HD.out.trans hcc)
                rw [List.tail_drop] at h1
                exact h1
              rw [hval] at hxp
              have e4 : IntKind.i64.wrap ((L : Int) - (W : Int)) = (R : Int) := by rw [IntKind.wrap_i64]; omega
              have r0 : (0 : Int) ≤ (R : Int) := by omega
              have r1 : (R : Int) < 64 := by omega
              have v0 : (0 : Int) ≤ (W : Int) := by omega
              have v1 : (W : Int) < 64 := by omega
              have eu1 : IntKind.u64.wrap (R : Int) = (R : Int) := by rw [u64_wrap]; omega
              have eu2 : IntKind.u64.wrap (W : Int) = (W : Int) := by rw [u64_wrap]; omega
              have hmk := rmask u R W HU1.out w2
              obtain ⟨N, hN⟩ : ∃ N, u / 2 ^ R % 2 ^ W = N := ⟨_, rfl⟩
              rw [hN] at hmk hbp hlow
              have HLL := Aside0.mk (hlow.symm.trans HL.out)
              have HBC := Aside0.mk (fun X (hX : RefAt X b b v' E) => RBits_yes (N : Int) (W : Int) E b b v' X hX HQ.out.1.good HQ.out.2.1 hbp (by have := HQ.out.2.2; omega))
              rw [Int.toNat_natCast] at HBC
              have hbm := bits_may _ _ hbp
              rw [Int.toNat_natCast] at hbm
              have HPO := Aside0.mk (put_ok (N : Int) 1 (2 ^ W) HQ.out.1 HQ.out.2.1 (Nat.le_refl _) hbm)
              have HRW := Aside0.mk hR
              have HMK := Aside0.mk hmk
              have ewr : ∀ x : Int, IntKind.i64.wrap x = wrap64 x := fun x => by rw [IntKind.wrap_i64]; unfold wrap64; omega
              rw [ewr, ewr] at hmk
              have HMK2 := Aside0.mk hmk
              have HDR := Aside0.mk hdr
              clear ewr hlow hbp hmk hbm hN hW hR HL hdr HD hcc hcons hval hC9
              go_wp2
              go_still_tail 17, (by kernel_rfl)
              have HEd := Aside0.mk (HE.out.below (below_drew (Below.refl _ _)))
              have HCd := Aside0.mk (HC.out.below (below_drew (Below.refl _ _)))
              have HPd := Aside0.mk (HP.out.below (below_drew (Below.refl _ _)))
              have HBd : Aside0 (Below b w wr.drew) := ⟨below_drew HBW.out⟩
              clear HE HC HP HBW hxp
              change wpList _ _ _ _ _ wr.drew
              generalize wr.drew = wz at HEd HCd HPd HBd ⊢
              go_wp2_with fail
              (try rw [HMK.out]); (try rw [HMK2.out])
              with_reducible refine (HBC.out _ HEd.out).mono ?_
              rintro e w7 ⟨rfl, v7, hE, hM⟩
              have HE8 := Aside0.mk hE
              have HC8 := Aside0.mk (HCd.out.enc HEd.out hM)
              have HP8 := Aside0.mk (HPd.out.enc HEd.out hM)
              have HB8 := Aside0.mk (HBd.out.trans hM.below)
              clear hE hM HBC HMK HMK2
              go_wp2
              go_roundw
              case rel => exact ⟨j + 1, (R : Int), _, v7, by omega, by go_num, rfl, by omega, by have := HRW.out; omega, ⟨by rw [Int.toNat_natCast]; exact HDR.out⟩, ⟨by rw [Int.toNat_natCast]; exact HLL.out⟩, HE8, HC8, HP8, HB8, ⟨HPO.out.1, HPO.out.2.1, by have := HPO.out.2.2; have := HQ.out.2.2; omega⟩⟩
              case measure => simp [intOf]; omega
            · have hjm2 : j = m := by omega
              have hL0 : L = 0 := by
                apply cutL_nil
                rw [← HD.out]
                exact List.drop_eq_nil_of_le (by rw [HMM.out]; omega)
              have he : E = E9 := by
                have := HL.out
                rw [hL0] at this
                rw [← this]
                cases 42 - j <;> rfl
              subst he
              have hjn : ¬ (j : Int) < (m : Int) := by omega
              clear HL HD
              have HSW := Aside0.mk (grow_any t.c t.s HOK.out.cnt.small HOK.out.cnt.len k HKK.out (by have h1 := HOK.out.cnt.at k HKK.out; have h2 := HOK.out.cnt.top; omega) (by have h1 := HOK.out.cnt.at k HKK.out; omega) (by have h2 := HOK.out.cnt.top; omega) b gc u0 wr HC.out)
              go_wp2_with fail
              with_reducible refine HSW.out.mono ?_
              rintro e w8 ⟨rfl, hC, hM⟩
              have HC9 := Aside0.mk hC
              have HE9 := Aside0.mk (HE.out.cnt HC.out hM)
              have HB9 := Aside0.mk (HBW.out.trans hM.below)
              clear hC hM HE HC HBW HSW HP
              go_wp2
              go_roundw
              case rel => exact ⟨i + 1, v', u0, by omega, by go_num, by rw [HNX.out]; exact HE9, by rw [HNX.out]; exact HC9, HB9⟩
              case measure => simp [intOf]; omega
        · obtain rfl : i = l.length := by omega
          have hok := run_ok (l.take l.length) (fun n hn => HB.out n (List.mem_of_mem_take hn))
          rw [List.take_length] at HE hok
          have HFI := Aside0.mk (fun W v (h : RefAt W b b v (runS l).e) => RFinish_any (runS l).e b b v W h hok.fit.good (by have := hok.size; omega))
          clear hok
          go_wp2_with fail
          with_reducible refine (HFI.out _ _ HE.out).mono ?_
          rintro e w9 ⟨rfl, v9, hE, hM⟩
          have HB9 := Aside0.mk (HBW.out.trans hM.below)
          clear hE hM
          go_wp2
          go_ret2
          rw [HRES.out]
          exact ⟨rfl, by rw [HBB.out]; exact HB9.out⟩
end Go.Proofs.Ytoologbaoifheaa.Hand
/- Contracts of layer 19, proved by hand: the reference's decoder of a text; rows beside the counts. -/
namespace Go.Proofs.Ytoologbaoifheaa.Hand
open Go.RowKit Go.Proofs.Ytoologbaoifheaa.Q Go.Proofs.Ytoologbaoifheaa.Math Go.Proofs.YtoologbaoifheaaW.PrintWords Go.Proofs.YtoologbaoifheaaW.PrintLast Go.Proofs.YtoologbaoifheaaW.PrintMore
set_option linter.unusedVariables false
set_option linter.unusedSimpArgs false

set_option maxHeartbeats 4000000 in
set_option maxRecDepth 100000 in
theorem ROf_any (s : ByteArray) (hs : s.size ≤ 9223372036854775807) (w : World) :
    Calls Try.prog 39 #[.string s] w fun e w' => ∃ g, e = .returned (.pointer (some ⟨g, 0, none⟩)) ∧ w.heap.size ≤ g ∧ XDAt w' g (ofD s) ∧ Below w.heap.size w w' := by
  have hup := Try.underlying74
  by_cases hbad : s.size < 5 ∨ ¬ bt s 0 = 0
  · have HO := Aside0.mk (ofD_bad s hbad)
    have HN : Aside0 (XDAt (w.alloc (.cells (xdCells ⟨s, 0, 0, 4294967295, true⟩) 77)) w.heap.size ⟨s, 0, 0, 4294967295, true⟩) := ⟨blk_new w _⟩
    have HBW := Aside0.mk ((Below.refl w.heap.size w).alloc (Nat.le_refl _) (.cells (xdCells ⟨s, 0, 0, 4294967295, true⟩) 77))
    rcases Nat.lt_or_ge s.size 5 with h5 | h5
    · have h5' : (s.size : Int) < 5 := by omega
      clear hbad
      go_enter Try.func39, Try.ntmps39
      go_wp2
      go_ret
      rw [HO.out]
      exact ⟨_, rfl, Nat.le_refl _, HN.out, HBW.out⟩
    · have h5' : ¬ (s.size : Int) < 5 := by omega
      have h6 : (0 : Int) < (s.size : Int) := by omega
      have hb0 : ¬ bt s 0 = 0 := by
        rcases hbad with h | h
        · omega
        · exact h
      have hbt := bt_at s 0 (by omega)
      rw [show ((0 : Nat) : Int) = 0 from rfl] at hbt
      have hbb : (bt s 0 == 0) = false := by simp [hb0]
      have hbc : (bt s 0 != 0) = true := by simp [hb0]
      clear hbad
      go_enter Try.func39, Try.ntmps39
      go_wp2
      go_ret
      rw [HO.out]
      exact ⟨_, rfl, Nat.le_refl _, HN.out, HBW.out⟩
  · have HO := Aside0.mk (ofD_good s hbad)
    have hsz : 5 ≤ s.size := by omega
    have h5 : ¬ (s.size : Int) < 5 := by omega
    have h6 : (0 : Int) < (s.size : Int) := by omega
    have hl0 : 0 < s.size := by omega
    have hbt := bt_at s 0 hl0
    rw [show bt s ((0 : Nat) : Int) = 0 from Decidable.byContradiction (fun h => hbad (.inr h))] at hbt
    have HN : Aside0 (XDAt (w.alloc (.cells (xdCells ⟨s, 0, 0, 4294967295, false⟩) 77)) w.heap.size ⟨s, 0, 0, 4294967295, false⟩) := ⟨blk_new w _⟩
    have HBW := Aside0.mk ((Below.refl w.heap.size w).alloc (Nat.le_refl _) (.cells (xdCells ⟨s, 0, 0, 4294967295, false⟩) 77))
    clear hbad
    go_enter Try.func39, Try.ntmps39
    go_wp2
    clear hbt
    go_loopg [4] 4 (fun k iv wr => ∃ (d : Nat), d + k = 4 ∧ iv = .int .i64 ((d + 1 : Nat) : Int) ∧ Aside0 (XDAt wr w.heap.size ⟨s, 0, codeTo s d, 4294967295, false⟩) ∧ Aside0 (Below w.heap.size w wr))
    case atStart => exact ⟨0, rfl, rfl, HN, HBW⟩
    case round =>
      obtain ⟨d, hd, rfl, HD, HB⟩ := hrel
      have c2 : wr.cell? ⟨w.heap.size, 2, none⟩ = some (.int .i64 (codeTo s d)) := HD.out.cell 2
      have f2 : wr.frozen? ⟨w.heap.size, 2, none⟩ = false := blk_frozen HD.out 2
      by_cases hlt : d < 4
      · obtain ⟨m, hm⟩ : ∃ m, d + 1 = m := ⟨_, rfl⟩
        rw [hm]
        have HM := Aside0.mk hm
        have i1 : (m : Int) < 5 := by omega
        have i2 : (m : Int) < (s.size : Int) := by omega
        have i3 : m < s.size := by omega
        have hbt := bt_at s m i3
        have hbl := bt_lt s (m : Nat)
        have hcl := codeTo_lt s d
        have hpl : (256 : Int) ^ d ≤ 256 ^ 3 := by
          have h1 : 256 ^ d ≤ 256 ^ 3 := Nat.pow_le_pow_right (by decide) (by omega)
          have h2 : (256 : Int) ^ d = ((256 ^ d : Nat) : Int) := by simp
          omega
        have e1 : codeTo s (d + 1) = codeTo s d * 256 + bt s (m : Nat) := by rw [codeTo, hm]
        have HE := Aside0.mk e1
        obtain ⟨x, hx⟩ : ∃ x, codeTo s d = x := ⟨_, rfl⟩
        obtain ⟨y, hy⟩ : ∃ y, bt s (m : Nat) = y := ⟨_, rfl⟩
        rw [hx] at c2 HE HD
        rw [hy] at hbt HE
        have y0 : 0 ≤ y := by rw [← hy]; exact hbl.1
        have y1 : y < 256 := by rw [← hy]; exact hbl.2
        have x0 : 0 ≤ x := by rw [← hx]; exact hcl.1
        have x1 : x < 16777216 := by rw [← hx]; omega
        have hw8 : IntKind.i64.wrap (x * 256) = x * 256 := by rw [IntKind.wrap_i64]; omega
        have hw9 : IntKind.i64.wrap (x * 256 + y) = x * 256 + y := by rw [IntKind.wrap_i64]; omega
        have hw7 : IntKind.i64.wrap y = y := by rw [IntKind.wrap_i64]; omega
        have HDK := Aside0.mk hd
        clear hx hy hbl hcl hpl e1 hm hd
        go_wp2
        go_still_tail 13, (by kernel_rfl)
        have HD2 : Aside0 (XDAt wr.drew w.heap.size ⟨s, 0, x, 4294967295, false⟩) := ⟨HD.out.below (below_drew (Below.refl _ _))⟩
        have HB2 : Aside0 (Below w.heap.size w wr.drew) := ⟨below_drew HB.out⟩
        have d2 : wr.drew.cell? ⟨w.heap.size, 2, none⟩ = some (.int .i64 x) := c2
        have g2 : wr.drew.frozen? ⟨w.heap.size, 2, none⟩ = false := f2
        clear c2 f2 HD HB
        change wpList _ _ _ _ _ wr.drew
        generalize wr.drew = wz at HD2 HB2 d2 g2 ⊢
        go_wp2
        go_roundg (gk - 1)
        case measure => have := HDK.out; omega
        case rel =>
          refine ⟨d + 1, by have := HDK.out; omega, by have := HM.out; go_num, ⟨HD2.out.set (d' := ⟨s, 0, codeTo s (d + 1), 4294967295, false⟩) 2 _ ?_⟩, ⟨HB2.out.setCell (Nat.le_refl _) _⟩⟩
          rw [HE.out]
          rfl
      · obtain rfl : d = 4 := by omega
        have c1 : wr.cell? ⟨w.heap.size, 1, none⟩ = some (.int .i64 0) := HD.out.cell 1
        have f1 : wr.frozen? ⟨w.heap.size, 1, none⟩ = false := blk_frozen HD.out 1
        go_wp2
        go_ret
        rw [HO.out]
        exact ⟨_, rfl, Nat.le_refl _, HD.out.set 1 _ rfl, HB.out.setCell (Nat.le_refl _) _⟩
/-- A list that is made beside the counts' row u. -/
def OutRow (w : World) (B : Nat) (u v : Value) (xs : List Int) : Prop := Kd.R (Kd.int .i64) 3 w B (fun k => u.ownBlock ≠ some k) v xs
theorem OutRow.nil (w : World) (B : Nat) (u : Value) : OutRow w B u (.slice none 0 0) [] := Kd.R_nil _ _ _ _ _
theorem OutRow.below {w w' : World} {B : Nat} {u v : Value} {xs : List Int} (h : OutRow w B u v xs) (hb : Below w.heap.size w w') : OutRow w' B u v xs := Kd.R_below h hb
/-- A block of another kind was turned. -/
theorem OutRow.kept {w w' : World} {B g : Nat} {u v : Value} {xs : List Int} {cs : Array Value} {t : TypeId} (h : OutRow w B u v xs) (hb : w.heap[g]? = some (.cells cs t (0, 0))) (ht : t ≠ 3) (hk : Kept w w' (fun k => k = g)) : OutRow w' B u v xs := by
  have h1 := Kd.R_types h hb (fun q hq => by rw [int_E q hq]; exact fun e => ht e.symm)
  exact Kd.R_mono (Kd.R_kept h1 hk (fun k hk1 hk2 => hk1.2 hk2)) (fun _ h => h.1)
theorem OutRow.cnt {w w' : World} {B B2 gc : Nat} {u v : Value} {xs c : List Int} {s : Int} (h : OutRow w B u v xs) (hc : RCAt w B2 gc u c s) (hm : Moved B2 gc w u w' u) : OutRow w' B u v xs := by
  have h1 := Kd.R_types h hc.1 (fun q hq => by rw [int_E q hq]; decide)
  refine Kd.R_mono (Kd.R_kept h1 hm.kept (fun k hk1 hk2 => ?_)) (fun _ h => h.1)
  rcases hk2 with e | e
  · exact hk1.2 e
  · exact hk1.1 e
theorem RCAt.own {W w1 : World} {B B2 gc : Nat} {u v : Value} {c xs : List Int} {s : Int} (h : RCAt W B gc u c s) (hr : OutRow W B2 u v xs) (hg : W.grownBy w1 v.ownBlock) : RCAt w1 B gc u c s := by
  refine ⟨?_, .of (Kd.R_grown h.2.1 hg (fun k hk e => hr.1 k e.symm hk)), h.2.2⟩
  rw [hg.block gc h.lt (fun e => (Kd.R_ne (Kd.R_mono hr (fun _ _ => trivial)) h.1 (by decide)) e)]
  exact h.1
theorem XDAt.own {W w1 : World} {B2 g : Nat} {u v : Value} {d : Dec} {xs : List Int} (h : XDAt W g d) (hr : OutRow W B2 u v xs) (hg : W.grownBy w1 v.ownBlock) : XDAt w1 g d := by
  have h2 : W.heap[g]? = _ := h
  show w1.heap[g]? = _
  rw [hg.block g (blk_lt h2) (fun e => (Kd.R_ne (Kd.R_mono hr (fun _ _ => trivial)) h2 (by decide)) e)]
  exact h2
section
variable {ops : Array Oper} {o : Oper} {a : Act} {Q : Exit → Act → World → Prop} {rest : List Oper}
theorem app_out {w0 W : World} {B gc g B2 : Nat} {u : Value} {c : List Int} {t : Int} {d : Dec} (s x : Operand) (y : Int) {v : Value} {xs : List Int} (hgd : o.guard = none)
    (ho : o.op = .call { callee := .builtin .append, args := #[s, x], argTypes := #[25, 25] }) (hs : a.eval s = v) (hx : a.eval x = .slice (some ⟨W.heap.size, 0, none⟩) 1 1)
    (HO : OutRow W B u v xs) (HC : RCAt W B2 gc u c t) (HD : XDAt W g d) (HB : Below B w0 W) (hB : B ≤ W.heap.size) (hl : xs.length < 17592186044415)
    (h : ∀ v1 w1, Aside0 (OutRow w1 B u v1 (xs ++ [y])) → Aside0 (RCAt w1 B2 gc u c t) → Aside0 (XDAt w1 g d) → Aside0 (Below B w0 w1) → wpList Try.prog ops Q rest (a.put o.dst v1) w1) :
    wpList Try.prog ops Q (o :: rest) a (W.alloc (.cells #[.int .i64 y] 3)) :=
  Kd.R_append (Kd.int .i64) (w0 := w0) B hgd s x 25 3 (.int .i64 0) 8 ho Try.underlying25 infoI rfl (by decide) (by omega) v xs y [.int .i64 y] (fun k => u.ownBlock ≠ some k) (fun _ => False) hs hx rfl (fun _ hk => hk.elim)
    (fun k hk e => by have := HC.2.1.lt k e; omega) HO HB hB (by omega) (fun v1 w1 h1 h2 h3 h4 => h v1 w1 ⟨h1⟩ ⟨HC.own HO h3⟩ ⟨HD.own HO h3⟩ ⟨h2⟩)
end
/-- The decoder's call leaves the counts, and a row. -/
theorem RCAt.dec {w w' : World} {B B2 g gc : Nat} {u : Value} {d : Dec} {c : List Int} {s : Int} (h : RCAt w B gc u c s) (hd : XDAt w g d) (ht : Turned B2 g w w') : RCAt w' B gc u c s := by
  refine ⟨blk_kept h.1 ht.kept (fun e => ?_), h.2.1.all |> fun h2 => ?_, h.2.2⟩
  · have h1 : w.heap[g]? = _ := hd
    rw [← e, h.1] at h1
    injection h1 with h1
    injection h1 with h1 h2
    exact absurd h2 (by decide)
  · have h1 := Kd.R_types h.2.1 hd (fun q hq => by rw [int_E q hq]; decide)
    exact .of (Kd.R_kept h1 ht.kept (fun k hk1 hk2 => hk1.2 hk2))
theorem IntsAt.dec {w w' : World} {B B2 g : Nat} {u : Value} {d : Dec} {xs : List Int} (h : IntsAt w B u xs) (hd : XDAt w g d) (ht : Turned B2 g w w') : IntsAt w' B u xs := by
  have h1 := Kd.R_types h hd (fun q hq => by rw [int_E q hq]; decide)
  exact .of (Kd.R_kept h1 ht.kept (fun k hk1 hk2 => hk1.2 hk2))
/-- The counts' call leaves the decoder. -/
theorem XDAt.cnt {w w' : World} {B2 g gc : Nat} {u : Value} {d : Dec} {c : List Int} {s : Int} (h : XDAt w g d) (hc : RCAt w B2 gc u c s) (hm : Moved B2 gc w u w' u) : XDAt w' g d := by
  refine blk_kept h hm.kept (fun hk => ?_)
  have h1 : w.heap[g]? = _ := h
  rcases hk with e | e
  · rw [e, hc.1] at h1
    injection h1 with h1
    injection h1 with h1 h2
    exact absurd h2 (by decide)
  · exact (Kd.R_ne hc.2.1.all h1 (by decide)) e.symm
theorem find_in (c : List Int) (hc : ∀ i, i < 42 → 1 ≤ c.getD i 0) (a : Int) (h1 : a < belowC c 42) : ∀ (f x : Nat), x ≤ 41 → 41 ≤ x + f → belowC c x ≤ a → x ≤ findC c f x (a - belowC c x) ∧ findC c f x (a - belowC c x) ≤ 41 ∧ belowC c (findC c f x (a - belowC c x)) ≤ a ∧ a < belowC c (findC c f x (a - belowC c x) + 1)
  | 0, x, hx, hf, h0 => by
    obtain rfl : x = 41 := by omega
    exact ⟨Nat.le_refl _, Nat.le_refl _, h0, h1⟩
  | f + 1, x, hx, hf, h0 => by
    have hs : belowC c (x + 1) = belowC c x + c.getD x 0 := rfl
    unfold findC
    by_cases h : c.getD x 0 ≤ a - belowC c x ∧ x < 41
    · rw [if_pos h, show a - belowC c x - c.getD x 0 = a - belowC c (x + 1) by omega]
      obtain ⟨p, q, r, t⟩ := find_in c hc a h1 f (x + 1) (by omega) (by omega) (by omega)
      exact ⟨by omega, q, r, t⟩
    · rw [if_neg h]
      refine ⟨Nat.le_refl _, hx, h0, ?_⟩
      by_cases h2 : x < 41
      · have : ¬ c.getD x 0 ≤ a - belowC c x := fun h3 => h ⟨h3, h2⟩
        omega
      · obtain rfl : x = 41 := by omega
        exact h1
theorem class_in (r : Rt) (hc : CountsOk r.c r.s) (h0 : 0 ≤ (peekD r.d r.s).1) (h1 : (peekD r.d r.s).1 ≤ r.s - 1) : classD r < 42 ∧ belowC r.c (classD r) ≤ (peekD r.d r.s).1 ∧ (peekD r.d r.s).1 < belowC r.c (classD r + 1) := by
  have h := find_in r.c hc.one (peekD r.d r.s).1 (by rw [hc.sum]; omega) 42 0 (by omega) (by omega) h0
  have e : (peekD r.d r.s).1 - belowC r.c 0 = (peekD r.d r.s).1 := by simp [belowC]
  rw [e] at h
  unfold classD
  exact ⟨by omega, h.2.2.1, h.2.2.2⟩
end Go.Proofs.Ytoologbaoifheaa.Hand
/- Contracts of layer 19, proved by hand: the reference's Decode. -/
namespace Go.Proofs.Ytoologbaoifheaa.Hand
open Go.RowKit Go.Proofs.Ytoologbaoifheaa.Q Go.Proofs.Ytoologbaoifheaa.Math Go.Proofs.YtoologbaoifheaaW.PrintWords Go.Proofs.YtoologbaoifheaaW.PrintLast Go.Proofs.YtoologbaoifheaaW.PrintMore
set_option linter.unusedVariables false
set_option linter.unusedSimpArgs false
attribute [local go_sem] max2_int min2_int max_two min_two

theorem numD_eq (r : Rt) : numD r = if (peekD r.d r.s).2 = 0 then
    if (takeD (belowC r.c (classD r)) (r.c.getD (classD r) 0) r.s r.d).1 = 0 then
      (lowD 42 (classD r - 1) (if classD r = 0 then 0 else 1) (takeD (belowC r.c (classD r)) (r.c.getD (classD r) 0) r.s r.d).2).map fun x => (unfoldM (x.1 : Int), ⟨x.2, (sawC r.c r.s (classD r)).1, (sawC r.c r.s (classD r)).2⟩)
    else none
  else none := rfl
theorem sh_in (u nn W : Nat) (hu : u < 2 ^ 41) (hW : W ≤ 16) (hn : nn < 2 ^ W) : IntKind.i64.wrap ((u : Int) * 2 ^ W) = (u : Int) * 2 ^ W ∧ wrap64 ((u : Int) * 2 ^ W) = (u : Int) * 2 ^ W ∧ IntKind.i64.wrap ((u : Int) * 2 ^ W + (nn : Int)) = ((u * 2 ^ W + nn : Nat) : Int) ∧ wrap64 ((u : Int) * 2 ^ W + (nn : Int)) = ((u * 2 ^ W + nn : Nat) : Int) := by
  have hp : 2 ^ W ≤ 65536 := Nat.pow_le_pow_right (n := 2) (by decide) hW
  have e : (u : Int) * 2 ^ W = ((u * 2 ^ W : Nat) : Int) := by simp
  have hm : u * 2 ^ W ≤ u * 65536 := Nat.mul_le_mul_left _ hp
  rw [e]
  generalize u * 2 ^ W = M at hm ⊢
  generalize 2 ^ W = P at hn hp
  refine ⟨?_, ?_, ?_, ?_⟩
  · rw [IntKind.wrap_i64]; omega
  · unfold wrap64; omega
  · rw [IntKind.wrap_i64]; omega
  · unfold wrap64; omega
theorem next_in (u nn W a b : Nat) (hub : u < 2 ^ a) (hn : nn < 2 ^ W) (h : b = a + W) : u * 2 ^ W + nn < 2 ^ b := by
  rw [h, Nat.pow_add]
  have h1 : (u + 1) * 2 ^ W ≤ 2 ^ a * 2 ^ W := Nat.mul_le_mul_right _ hub
  rw [Nat.add_mul, Nat.one_mul] at h1
  generalize u * 2 ^ W = M at h1 ⊢
  generalize 2 ^ a * 2 ^ W = N at h1 ⊢
  omega
set_option maxHeartbeats 16000000 in
set_option maxRecDepth 100000 in
theorem RDecode_any (s : ByteArray) (hs : s.size ≤ 9223372036854775807) (n : Int) (w : World) :
    Calls Try.prog 16 #[.string s, .int .i64 n] w fun e w' => ∃ v, e = .returned (.tuple #[v, .int .i64 (decF s n).2.1, .int .i64 (decF s n).2.2]) ∧ Got w' w.heap.size v (decF s n).1 ∧ Below w.heap.size w w' := by
  have hup := Try.underlying74
  have hup2 := Try.underlying59
  have HF : Aside0 (decF s n = if n < 0 ∨ 16777216 < n then (([], 0, 1) : List Int × Int × Int) else if (ofD s).bad = true then (([], 0, 2) : List Int × Int × Int) else
    match decs n.toNat ⟨ofD s, ones, 42⟩ [] with
    | none => (([], 0, 2) : List Int × Int × Int)
    | some (out, r) => ((out, r.d.pos, 0) : List Int × Int × Int)) := ⟨rfl⟩
  have HNIL : ∀ W : World, ∀ B, Got W B (.slice none 0 0) [] := fun W B => Kd.R_nil _ _ _ _ _
  have HNI := Aside0.mk HNIL
  clear HNIL
  by_cases hn : n < 0 ∨ 16777216 < n
  · have HR := Aside0.mk (HF.out.trans (if_pos hn))
    clear HF
    have hn2 : n < 0 ∨ ¬ n < 0 ∧ 16777216 < n := by omega
    clear hn
    rcases hn2 with hn | ⟨hn, hn3⟩
    · go_enter Try.func16, Try.ntmps16
      go_wp2
      go_ret3
      rw [HR.out]
      exact ⟨_, rfl, HNI.out _ _, Below.refl _ _⟩
    · go_enter Try.func16, Try.ntmps16
      go_wp2
      go_ret3
      rw [HR.out]
      exact ⟨_, rfl, HNI.out _ _, Below.refl _ _⟩
  · have HR := Aside0.mk (HF.out.trans (if_neg hn))
    have n0 : ¬ n < 0 := by omega
    have n1 : ¬ 16777216 < n := by omega
    have HOF := Aside0.mk (ROf_any s hs w)
    have hod : (ofD s).s = s := by
      by_cases hb : s.size < 5 ∨ ¬ bt s 0 = 0
      · rw [ofD_bad s hb]
      · rw [ofD_good s hb]
    have HOS : Aside0 ((ofD s).s.size ≤ 9223372036854775807) := ⟨by rw [hod]; exact hs⟩
    have HOG := Aside0.mk (ofD_ok s)
    clear HF hn hod hs
    generalize ofD s = d0 at HR HOF HOS HOG
    go_enter Try.func16, Try.ntmps16
    go_wp2_with fail
    with_reducible refine HOF.out.mono ?_
    rintro e w1 ⟨g, rfl, hg1, hd1, hb1⟩
    have HD1 := Aside0.mk hd1
    have HB1 := Aside0.mk hb1
    have c4 : w1.cell? ⟨g, 4, none⟩ = some (.bool d0.bad) := hd1.cell 4
    clear hd1 hb1 HOF
    cases hbad : d0.bad with
    | true =>
      have HR2 := Aside0.mk (HR.out.trans (if_pos hbad))
      rw [hbad] at c4
      clear HR hbad
      go_wp2
      go_ret3
      rw [HR2.out]
      exact ⟨_, rfl, HNI.out _ _, HB1.out⟩
    | false =>
      have HR2 := Aside0.mk (HR.out.trans (if_neg (by rw [hbad]; decide)))
      rw [hbad] at c4
      clear HR hbad
      go_wp2_with fail
      with_reducible refine (rbegin_any w1).mono ?_
      rintro e w2 ⟨rfl, u, hc2, hb2⟩
      have HC2 := Aside0.mk (hc2.lower HB1.out.size)
      have HD2 := Aside0.mk (HD1.out.below hb2)
      have HB2 := Aside0.mk (HB1.out.trans (hb2.mono HB1.out.size))
      clear hc2 hb2 HD1 HB1 c4
      obtain ⟨B, hB⟩ : ∃ B, w.heap.size = B := ⟨_, rfl⟩
      have HBB := Aside0.mk hB
      rw [hB] at hg1 HB2 HC2
      clear hB
      generalize w1.heap.size = gc at HC2 ⊢
      have HO2 := Aside0.mk (OutRow.nil w2 B u)
      obtain ⟨X, hX⟩ : ∃ X, decs n.toNat ⟨d0, ones, 42⟩ [] = X := ⟨_, rfl⟩
      rw [hX] at HR2
      have HX := Aside0.mk hX
      have HCO := Aside0.mk begun_ok
      clear hX
      go_wp2
      go_loopw [9, 10] (fun ov iv wr => ∃ (i : Nat) (r : Rt) (out : List Int), (i : Int) ≤ n ∧ iv = .int .i64 i ∧ out.length = i ∧ Aside0 (GoodD r.d) ∧ Aside0 (CountsOk r.c r.s) ∧ Aside0 (r.d.s.size ≤ 9223372036854775807) ∧ Aside0 (XDAt wr g r.d) ∧ Aside0 (RCAt wr B gc u r.c r.s) ∧ Aside0 (OutRow wr B u ov out) ∧ Aside0 (Below B w wr) ∧ Aside0 (decs (n.toNat - i) r out = X)) (fun _ iv _ => n.toNat - (intOf iv).toNat)
      case atStart => exact ⟨0, ⟨d0, ones, 42⟩, [], by omega, rfl, rfl, HOG, HCO, HOS, HD2, HC2, HO2, HB2, HX⟩
      case round =>
        clear HOG HCO HOS HD2 HC2 HO2 HB2 HX
        obtain ⟨i, r, out, hi, rfl, hlen, HG, HC, HS, HD, HK, HO, HB, HX⟩ := hrel
        by_cases hlt : (i : Int) < n
        · obtain ⟨m, hm⟩ : ∃ m, n.toNat - i = m + 1 := ⟨n.toNat - i - 1, by omega⟩
          have HX2 : Aside0 ((match numD r with | none => none | some (x, r') => decs m r' (out ++ [x])) = X) := ⟨by have := HX.out; rw [hm] at this; exact this⟩
          have hm2 : n.toNat - (i + 1) = m := by omega
          have HNU := Aside0.mk (numD_eq r)
          have hs1 := HC.out.at 0 (by decide)
          have htop := HC.out.top
          have hpk := peek_in r.d r.s HG.out (by omega)
          have hcl := class_in r HC.out hpk.1 hpk.2
          have cT : wr.cell? ⟨gc, 1, none⟩ = some (.int .i64 r.s) := HK.out.cell 1
          clear HX hm hs1
          go_wp2_with fail
          with_reducible refine (XPeek_any r.d r.s g wr HD.out HG.out).mono ?_
          rintro e w3 ⟨rfl, hd3⟩
          have HD3 := Aside0.mk (HD.out.below hd3.below)
          have HK3 := Aside0.mk (HK.out.below hd3.below)
          have HO3 := Aside0.mk (HO.out.below hd3.below)
          have HB3 : Aside0 (Below B w w3) := ⟨HB.out.trans (hd3.below.mono (by have := HK.out.lt; have := HK.out.2.2; omega))⟩
          clear hd3 HD HK HO HB cT
          by_cases hp0 : (peekD r.d r.s).2 = 0
          · have hpb : ((peekD r.d r.s).2 != 0) = false := by simp [hp0]
            have HN2 := Aside0.mk (HNU.out.trans (if_pos hp0))
            clear HNU hp0
            generalize (peekD r.d r.s).2 = pe at hpb ⊢
            obtain ⟨hk42, hk1, hk2⟩ := hcl
            generalize classD r = K at hk42 hk1 hk2 HN2
            generalize (peekD r.d r.s).1 = pv at hpk hk1 hk2 ⊢
            have hsm := HC.out.small
            have hln := HC.out.len
            have HMN := Aside0.mk (fun j (hj : j < K) => below_mono r.c HC.out.one (K - (j + 1)) (j + 1) (by omega))
            have HSB := Aside0.mk (fun k (hk : k ≤ 42) => rbelow_any r.c r.s hsm hln k hk B gc u w3 HK3.out)
            clear hsm
            go_wp2
            go_loopw [13] (fun kv wq => ∃ k : Nat, k ≤ K ∧ kv = .int .i64 k ∧ wq = w3) (fun kv _ => 42 - (intOf kv).toNat)
            case atStart => exact ⟨0, Nat.zero_le _, rfl, rfl⟩
            case round =>
              obtain ⟨k, hkK, rfl, hww⟩ := hrel
              subst hww
              have ek : IntKind.i64.wrap ((k : Int) + 1) = (k : Int) + 1 := by rw [IntKind.wrap_i64]; omega
              have hs1 := HSB.out (k + 1) (by omega)
              rw [show ((k + 1 : Nat) : Int) = (k : Int) + 1 by omega] at hs1
              have HS1 := Aside0.mk hs1
              clear hs1
              by_cases hkl : k < K
              · have hge : belowC r.c (k + 1) ≤ pv := by
                  have := HMN.out k hkl
                  rw [show k + 1 + (K - (k + 1)) = K by omega] at this
                  omega
                go_wp2_with fail
                with_reducible refine HS1.out.mono ?_
                rintro e w9 ⟨rfl, rfl⟩
                generalize belowC r.c (k + 1) = bq at hge ⊢
                go_wp2
                go_roundw
                case rel => exact ⟨k + 1, by omega, by go_num, by trivial⟩
                case measure => simp [intOf]; omega
              · obtain rfl : k = K := by omega
                have hge : ¬ belowC r.c (k + 1) ≤ pv := by omega
                go_wp2_with fail
                with_reducible refine HS1.out.mono ?_
                rintro e w9 ⟨rfl, rfl⟩
                generalize belowC r.c (k + 1) = bq at hge ⊢
                clear HS1 HMN ek
                obtain ⟨bb, cap, hu0, hcap, hcc, _, _, _⟩ := HK3.out.2.1.place 0 (by omega)
                rw [hln] at hu0 hcc
                have c0 : wr.cell? ⟨gc, 0, none⟩ = some u := HK3.out.cell 0
                have cT : wr.cell? ⟨gc, 1, none⟩ = some (.int .i64 r.s) := HK3.out.cell 1
                have cK : wr.cell? ⟨bb, k, none⟩ = some (.int .i64 (r.c.getD k 0)) := hcc k hk42
                rw [hu0] at c0
                have HSS := Aside0.mk (rbelow_still r.c r.s HC.out.small hln k (by omega) B gc u wr.drew (HK3.out.below (below_drew (Below.refl _ _))))
                have HTA := Aside0.mk (fun W (hW : XDAt W g r.d) => XTake_any r.d (belowC r.c k) (r.c.getD k 0) r.s HG.out HS.out B g hg1 W hW)
                obtain ⟨f0, hf0⟩ : ∃ f0, belowC r.c k = f0 := ⟨_, rfl⟩
                obtain ⟨q0, hq0⟩ : ∃ q0, r.c.getD k 0 = q0 := ⟨_, rfl⟩
                have HQ0 := Aside0.mk hq0
                rw [hf0] at HSS
                rw [hf0, hq0] at HTA HN2
                rw [hq0] at cK
                have k0 : (0 : Int) ≤ (k : Int) := by omega
                have k1 : (k : Int) < 42 := by omega
                clear hf0 hq0 hcc hk1 hk2 HSB
                go_wp2
                go_still_tail 15, (by kernel_rfl)
                still_call HSS.out
                repeat still_step
                refine wpStill_nil ?_
                have HD4 := Aside0.mk (HD3.out.below (below_drew (Below.refl _ _)))
                have HK4 := Aside0.mk (HK3.out.below (below_drew (Below.refl _ _)))
                have HO4 := Aside0.mk (HO3.out.below (below_drew (Below.refl _ _)))
                have HB4 : Aside0 (Below B w wr.drew) := ⟨below_drew HB3.out⟩
                clear c0 cT cK HD3 HK3 HO3 HB3 HSS
                change wpList _ _ _ _ _ wr.drew
                generalize wr.drew = w4 at HD4 HK4 HO4 HB4 ⊢
                go_wp2_with fail
                with_reducible refine (HTA.out _ HD4.out).mono ?_
                rintro e w5 ⟨rfl, hd5, ht5⟩
                have HD5 := Aside0.mk hd5
                have HK5 := Aside0.mk (HK4.out.dec HD4.out ht5)
                have HO5 := Aside0.mk (HO4.out.kept HD4.out (by decide) ht5.kept)
                have HB5 := Aside0.mk (HB4.out.trans ht5.below)
                have HG5 := Aside0.mk (takeD_good r.d f0 q0 r.s HG.out)
                have HS5 : Aside0 ((takeD f0 q0 r.s r.d).2.s.size ≤ 9223372036854775807) := ⟨by rw [takeD_s]; exact HS.out⟩
                clear hd5 ht5 HD4 HK4 HO4 HB4 HTA
                by_cases ht0 : (takeD f0 q0 r.s r.d).1 = 0
                · have htb : ((takeD f0 q0 r.s r.d).1 != 0) = false := by simp [ht0]
                  have HN3 := Aside0.mk (HN2.out.trans (if_pos ht0))
                  clear HN2 ht0
                  generalize (takeD f0 q0 r.s r.d).1 = te at htb ⊢
                  generalize (takeD f0 q0 r.s r.d).2 = d5 at HD5 HG5 HS5 HN3
                  obtain ⟨u0, hu00⟩ : ∃ u0 : Nat, (if k = 0 then 0 else 1) = u0 := ⟨_, rfl⟩
                  rw [hu00] at HN3
                  obtain ⟨Y, hY⟩ : ∃ Y, lowD 42 (k - 1) u0 d5 = Y := ⟨_, rfl⟩
                  rw [hY] at HN3
                  have HY := Aside0.mk hY
                  have ekl : IntKind.i64.wrap ((k : Int) - 1) = (k : Int) - 1 := by rw [IntKind.wrap_i64]; omega
                  clear hY
                  have HPI := Aside0.mk (fun W => RPieces_any k hk42 W)
                  have hb5 : B ≤ w5.heap.size := by have := HK5.out.lt; have := HK5.out.2.2; omega
                  have hkz : (¬ (0 : Int) < (k : Int) ∧ u0 = 0) ∨ ((0 : Int) < (k : Int) ∧ u0 = 1) := by
                    rcases Nat.eq_zero_or_pos k with h | h
                    · exact .inl ⟨by omega, by rw [← hu00, if_pos h]⟩
                    · exact .inr ⟨by omega, by rw [← hu00, if_neg (by omega)]⟩
                  have HU00 : Aside0 (u0 < 2 ^ (k - (k - 1))) := ⟨by
                    rcases hkz with ⟨h, rfl⟩ | ⟨h, rfl⟩
                    · exact Nat.two_pow_pos _
                    · rw [show k - (k - 1) = 1 by omega]; decide⟩
                  have HK42 := Aside0.mk hk42
                  clear hu00
                  rcases hkz with ⟨hkz, rfl⟩ | ⟨hkz, rfl⟩
                  all_goals
                    go_wp2_with fail
                    with_reducible refine (HPI.out _).mono ?_
                    rintro e w6 ⟨vp, rfl, hP, hB6⟩
                    have HD6 := Aside0.mk (HD5.out.below hB6)
                    have HK6 := Aside0.mk (HK5.out.below hB6)
                    have HO6 := Aside0.mk (HO5.out.below hB6)
                    have HB6 : Aside0 (Below B w w6) := ⟨HB5.out.trans (hB6.mono hb5)⟩
                    have HP6 := Aside0.mk (hP.lower hb5)
                    clear hP hB6 HD5 HK5 HO5 HB5 HPI hb5
                    obtain ⟨Ap, cp, rfl, hcp, _⟩ := HP6.out.C
                    have hfew := cutL_few (k - 1) (by omega)
                    obtain ⟨mm, hmm⟩ : ∃ mm, (cutL (k - 1)).length = mm := ⟨_, rfl⟩
                    rw [hmm] at hcp hfew HP6 ⊢
                    have HMM := Aside0.mk hmm
                    clear hmm
                    go_wp2
                    go_loopw [14, 16] (fun uv jv wr => ∃ (j L u' : Nat) (d : Dec), j ≤ mm ∧ jv = .int .i64 j ∧ uv = .int .i64 u' ∧ L < 42 ∧ Aside0 (L < k ∨ k = 0 ∧ L = 0) ∧ Aside0 (u' < 2 ^ (k - L)) ∧ Aside0 ((cutL (k - 1)).drop j = cutL L) ∧ Aside0 (lowD (42 - j) L u' d = Y) ∧ Aside0 (GoodD d) ∧ Aside0 (d.s.size ≤ 9223372036854775807) ∧ Aside0 (XDAt wr g d) ∧ Aside0 (RCAt wr B gc u r.c r.s) ∧ Aside0 (OutRow wr B u u9 out) ∧ Aside0 (IntsAt wr B (.slice Ap mm cp) (cutL (k - 1))) ∧ Aside0 (Below B w wr)) (fun _ jv _ => mm - (intOf jv).toNat)
                    case atStart => exact ⟨0, k - 1, _, d5, by omega, rfl, rfl, by omega, ⟨by omega⟩, HU00, ⟨rfl⟩, HY, HG5, HS5, HD6, HK6, HO6, HP6, HB6⟩
                    case round =>
                      clear HU00 HY HG5 HS5 HD6 HK6 HO6 HP6 HB6
                      obtain ⟨j, L, u', d, hj, rfl, rfl, hL, HLK, HUB, HDP, HL, HGD, HSZ, HD, HK, HO, HP, HBW⟩ := hrel
                      by_cases hjm : j < mm
                      · have j0 : (0 : Int) ≤ (j : Int) := by omega
                        have j1 : (j : Int) < (mm : Int) := by omega
                        have hcons : cutL L ≠ [] := by
                          rw [← HDP.out]
                          intro e
                          have := congrArg List.length e
                          rw [List.length_drop, HMM.out, List.length_nil] at this
                          omega
                        have hLp : 0 < L := by
                          rcases Nat.eq_zero_or_pos L with h0 | h0
                          · subst h0
                            exact absurd rfl hcons
                          · exact h0
                        have hk2 : 2 ≤ k := by
                          rcases Nat.lt_or_ge k 2 with h2 | h2
                          · exfalso
                            have hk1 : k - 1 = 0 := by omega
                            have := HDP.out
                            rw [hk1, show cutL 0 = [] from rfl, List.drop_nil] at this
                            exact hcons this.symm
                          · exact h2
                        have hk2' : (2 : Int) ≤ (k : Int) := by omega
                        have hcc := cutL_cons L hLp
                        have hlow : lowD (42 - j) L u' d = if (bitsD ((L - 1) % 16 + 1 : Nat) d).2.1 = 0 then lowD (42 - (j + 1)) (L - ((L - 1) % 16 + 1)) (u' * 2 ^ ((L - 1) % 16 + 1) + (bitsD ((L - 1) % 16 + 1 : Nat) d).1.toNat) (bitsD ((L - 1) % 16 + 1 : Nat) d).2.2 else none := by
                          obtain ⟨f, hf⟩ : ∃ f, 42 - j = f + 1 := ⟨41 - j, by omega⟩
                          rw [hf, show 42 - (j + 1) = f by omega]
                          show (if L = 0 then some (u', d) else _) = _
                          rw [if_neg (by omega)]
                        obtain ⟨W, hW⟩ : ∃ W, (L - 1) % 16 + 1 = W := ⟨_, rfl⟩
                        obtain ⟨R, hR⟩ : ∃ R, L - W = R := ⟨_, rfl⟩
                        rw [hW, hR] at hlow hcc
                        have w1 : 1 ≤ W ∧ W ≤ 16 := by omega
                        obtain ⟨w1, w2⟩ := w1
                        obtain ⟨A9, c9, e9, _, hC9⟩ := HP.out.C
                        injection e9 with e9 e10 e11
                        subst e9
                        clear e10 e11
                        obtain ⟨adp, rfl, hxp⟩ := (Kd.reads_of_C (d := (0 : Int)) (enc := Value.int .i64) hC9).at_ (j : Int) j0 (by rw [HMM.out]; exact j1)
                        rw [Int.toNat_natCast] at hxp
                        have hval : rdOf 0 (cutL (k - 1)) (j : Int) = (W : Int) := by
                          have h1 := HDP.out
                          rw [hcc] at h1
                          have h2 : (cutL (k - 1))[j]? = some (W : Int) := by
                            have := congrArg (fun l => l[0]?) h1
                            simpa [List.getElem?_drop] using this
                          simp [rdOf, h2]
                        have hdr : (cutL (k - 1)).drop (j + 1) = cutL R := by
                          have h1 := congrArg List.tail (HDP.out.trans hcc)
                          rw [List.tail_drop] at h1
                          exact h1
                        rw [hval] at hxp
                        have HLL := Aside0.mk (hlow.symm.trans HL.out)
                        have HDR := Aside0.mk hdr
                        have HBC := Aside0.mk (XBitsD_any d (W : Int) HGD.out HSZ.out B g hg1 wr HD.out)
                        have HG2 := Aside0.mk (bitsD_good (W : Int) d HGD.out)
                        have hbi := bits_in W d HGD.out
                        have HRW := Aside0.mk hR
                        have HCW : Aside0 (∀ W' : World, IntsAt W' B (.slice (some adp) mm cp) (cutL (k - 1)) → W'.cell? (adp.add j) = some (.int .i64 (W : Int))) := ⟨fun W' hW' => by
                          obtain ⟨A8, c8, e8, _, hC8⟩ := hW'.C
                          injection e8 with e8 _ _
                          subst e8
                          obtain ⟨ad8, e7, hx8⟩ := (Kd.reads_of_C (d := (0 : Int)) (enc := Value.int .i64) hC8).at_ (j : Int) j0 (by rw [HMM.out]; exact j1)
                          injection e7 with e7
                          subst e7
                          rw [Int.toNat_natCast, hval] at hx8
                          exact hx8⟩
                        have HVV := Aside0.mk hval
                        have hWL : W ≤ L := by omega
                        clear hlow HL hdr HDP hcc hcons hval hC9 hW
                        go_wp2_with fail
                        with_reducible refine HBC.out.mono ?_
                        rintro e w8 ⟨rfl, hd8, ht8⟩
                        have HD8 := Aside0.mk hd8
                        have HK8 := Aside0.mk (HK.out.dec HD.out ht8)
                        have HO8 := Aside0.mk (HO.out.kept HD.out (by decide) ht8.kept)
                        have HP8 := Aside0.mk (HP.out.dec HD.out ht8)
                        have HB8 := Aside0.mk (HBW.out.trans ht8.below)
                        have hx8 := HCW.out w8 HP8.out
                        clear hd8 ht8 HD HK HO HP HBW HBC hxp HCW
                        have HSZ8 : Aside0 ((bitsD (W : Int) d).2.2.s.size ≤ 9223372036854775807) := ⟨by rw [bitsD_s]; exact HSZ.out⟩
                        by_cases he : (bitsD (W : Int) d).2.1 = 0
                        · have heb : ((bitsD (W : Int) d).2.1 != 0) = false := by simp [he]
                          have HL2 := Aside0.mk ((if_pos he).symm.trans HLL.out)
                          clear HLL he
                          obtain ⟨nn, hnn⟩ : ∃ nn : Nat, (bitsD (W : Int) d).1 = (nn : Int) := ⟨(bitsD (W : Int) d).1.toNat, by omega⟩
                          rw [hnn] at hbi HL2 ⊢
                          rw [Int.toNat_natCast] at HL2
                          generalize (bitsD (W : Int) d).2.1 = be at heb ⊢
                          generalize (bitsD (W : Int) d).2.2 = d8 at HD8 HG2 HSZ8 HL2
                          have hn2 : nn < 2 ^ W := by exact_mod_cast hbi.2
                          have hLk : L < k := by
                            rcases HLK.out with h | ⟨h, _⟩
                            · exact h
                            · omega
                          have hu41 : u' < 2 ^ 41 := Nat.lt_of_lt_of_le HUB.out (Nat.pow_le_pow_right (by decide) (by omega))
                          obtain ⟨esh, esh2, esum, esum2⟩ := sh_in u' nn W hu41 w2 hn2
                          have eu2 : IntKind.u64.wrap (W : Int) = (W : Int) := by rw [u64_wrap]; omega
                          have v0 : (0 : Int) ≤ (W : Int) := by omega
                          have v1 : (W : Int) < 64 := by omega
                          have HUB8 : Aside0 (u' * 2 ^ W + nn < 2 ^ (k - R)) := ⟨next_in u' nn W (k - L) (k - R) HUB.out hn2 (by omega)⟩
                          clear hnn hbi hn2 hu41 hR hWL
                          obtain ⟨un, hun⟩ : ∃ un, u' * 2 ^ W + nn = un := ⟨_, rfl⟩
                          rw [hun] at esum esum2 HUB8 HL2
                          clear hun
                          go_wp2
                          go_roundw
                          case rel => exact ⟨j + 1, R, un, d8, by omega, by go_num, rfl, by have := HRW.out; omega, ⟨by have := HRW.out; omega⟩, HUB8, HDR, HL2, HG2, HSZ8, HD8, HK8, HO8, HP8, HB8⟩
                          case measure => simp [intOf]; omega
                        · have heb : ((bitsD (W : Int) d).2.1 != 0) = true := by simpa using he
                          have HL2 := Aside0.mk ((if_neg he).symm.trans HLL.out)
                          have HXN : Aside0 (X = none) := ⟨by have := HX2.out; rw [HN3.out, ← HL2.out] at this; exact this.symm⟩
                          clear HLL he hbi
                          generalize (bitsD (W : Int) d).2.1 = be at heb ⊢
                          generalize (bitsD (W : Int) d).1 = bv
                          go_wp2
                          go_ret3
                          rw [HR2.out, HXN.out, HBB.out]
                          exact ⟨_, rfl, HNI.out _ _, HB8.out⟩
                      · have hjm2 : j = mm := by omega
                        have hL0 : L = 0 := by
                          apply cutL_nil
                          rw [← HDP.out]
                          exact List.drop_eq_nil_of_le (by rw [HMM.out]; omega)
                        subst hL0
                        have hY2 : some (u', d) = Y := by
                          have := HL.out
                          rw [← this]
                          cases 42 - j <;> rfl
                        have hjn : ¬ (j : Int) < (mm : Int) := by omega
                        have hu41 : u' < 2 ^ 41 := Nat.lt_of_lt_of_le HUB.out (Nat.pow_le_pow_right (by decide) (by omega))
                        have HN4 : Aside0 (numD r = some (unfoldM (u' : Int), ⟨d, (sawC r.c r.s k).1, (sawC r.c r.s k).2⟩)) := ⟨by rw [HN3.out, ← hY2]; rfl⟩
                        have HXC : Aside0 (decs m ⟨d, (sawC r.c r.s k).1, (sawC r.c r.s k).2⟩ (out ++ [unfoldM (u' : Int)]) = X) := ⟨by have := HX2.out; rw [HN4.out] at this; exact this⟩
                        have HUF := Aside0.mk (fun W => lacquerref19_Unfold.calls (u' : Int) _ W (runfoldM_eq (u' : Int) (by omega) (by omega)))
                        have HGR := Aside0.mk (fun W (hW : RCAt W B gc u r.c r.s) => grow_any r.c r.s HC.out.small hln k HK42.out (by have h1 := HC.out.at k HK42.out; omega) (by have h1 := HC.out.at k HK42.out; omega) (by omega) B gc u W hW)
                        have HCS := Aside0.mk (HC.out.saw k HK42.out)
                        have hb9 : B ≤ wr.heap.size := by have := HK.out.lt; have := HK.out.2.2; omega
                        clear hY2 HL HDP HN3 HX2 hu41 HUB HP HN4
                        generalize unfoldM (u' : Int) = y at HUF HXC
                        go_wp2_with fail
                        with_reducible refine (HUF.out _).mono ?_
                        rintro e w9 ⟨rfl, hd9⟩
                        have HD9 := Aside0.mk (HD.out.below hd9.below)
                        have HK9 := Aside0.mk (HK.out.below hd9.below)
                        have HO9 := Aside0.mk (HO.out.below hd9.below)
                        have HB9 : Aside0 (Below B w w9) := ⟨HBW.out.trans (hd9.below.mono hb9)⟩
                        have hb10 : B ≤ w9.heap.size := Nat.le_trans hb9 hd9.below.size
                        clear hd9 HD HK HO HBW HUF
                        go_wp2_with (at_builtin; (with_reducible refine app_out (w0 := w) (B := B) (gc := gc) (g := g) (B2 := B) (u := u) (c := r.c) (t := r.s) (d := d) (v := u9) (xs := out) (.tmp 108) (.tmp 111) y ?_ ?_ ?_ ?_ ?_ ?_ ?_ ?_ ?_ ?_ ?_); rfl; rfl; rfl; rfl; exact HO9.out; exact HK9.out; exact HD9.out; exact HB9.out; exact hb10; omega; intro v1 w10 HO10 HK10 HD10 HB10)
                        with_reducible refine (HGR.out _ HK10.out).mono ?_
                        rintro e w11 ⟨rfl, hK11, hM11⟩
                        have HK11 := Aside0.mk hK11
                        have HD11 := Aside0.mk (HD10.out.cnt HK10.out hM11)
                        have HO11 := Aside0.mk (HO10.out.cnt HK10.out hM11)
                        have HB11 := Aside0.mk (HB10.out.trans hM11.below)
                        clear hK11 hM11 HK10 HD10 HO10 HB10 HGR
                        go_wp2
                        go_roundw
                        case rel => exact ⟨i + 1, ⟨d, (sawC r.c r.s k).1, (sawC r.c r.s k).2⟩, out ++ [y], by omega, by go_num, by rw [List.length_append, hlen]; rfl, HGD, HCS, HSZ, HD11, HK11, HO11, HB11, ⟨by rw [hm2]; exact HXC.out⟩⟩
                        case measure => simp [intOf]; omega
                · have htb : ((takeD f0 q0 r.s r.d).1 != 0) = true := by simpa using ht0
                  have HN3 := Aside0.mk (HN2.out.trans (if_neg ht0))
                  have HXN : Aside0 (X = none) := ⟨by have := HX2.out; rw [HN3.out] at this; exact this.symm⟩
                  clear HN2 ht0
                  generalize (takeD f0 q0 r.s r.d).1 = te at htb ⊢
                  go_wp2
                  go_ret3
                  rw [HR2.out, HXN.out, HBB.out]
                  exact ⟨_, rfl, HNI.out _ _, HB5.out⟩
          · have hpb : ((peekD r.d r.s).2 != 0) = true := by simpa using hp0
            have HN2 := Aside0.mk (HNU.out.trans (if_neg hp0))
            have HXN : Aside0 (X = none) := ⟨by have := HX2.out; rw [HN2.out] at this; exact this.symm⟩
            clear HNU hp0
            generalize (peekD r.d r.s).2 = pe at hpb ⊢
            go_wp2
            go_ret3
            rw [HR2.out, HXN.out, HBB.out]
            exact ⟨_, rfl, HNI.out _ _, HB3.out⟩
        · have hz : n.toNat - i = 0 := by omega
          have HXS : Aside0 (X = some (out, r)) := ⟨by have := HX.out; rw [hz] at this; exact this.symm⟩
          have c1 : wr.cell? ⟨g, 1, none⟩ = some (.int .i64 r.d.pos) := HD.out.cell 1
          clear hz HX
          go_wp2
          go_quiet (fail)
          have HO7 := Aside0.mk (HO.out.below (pw_below_drewN (Below.refl _ _) nq))
          have HB7 : Aside0 (Below B w (wr.drewN nq)) := ⟨pw_below_drewN HB.out nq⟩
          clear HO HB HD HK c1
          generalize wr.drewN nq = w7 at HO7 HB7 ⊢
          go_wp2
          go_ret3
          rw [HR2.out, HXS.out, HBB.out]
          exact ⟨_, rfl, Kd.R_mono HO7.out (fun _ _ => trivial), HB7.out⟩
end Go.Proofs.Ytoologbaoifheaa.Hand
/- Contracts of layer 19, proved by hand: ModelDecodes. -/
namespace Go.Proofs.Ytoologbaoifheaa.Hand
open Go.RowKit Go.Proofs.Ytoologbaoifheaa.Q Go.Proofs.Ytoologbaoifheaa.Math Go.Proofs.YtoologbaoifheaaW.PrintWords Go.Proofs.YtoologbaoifheaaW.PrintLast Go.Proofs.YtoologbaoifheaaW.PrintMore
set_option linter.unusedVariables false
set_option linter.unusedSimpArgs false

theorem decs_len : ∀ (k : Nat) (r : Rt) (out o : List Int) (r' : Rt), decs k r out = some (o, r') → o.length = out.length + k
  | 0, r, out, o, r', h => by
    simp only [decs] at h
    injection h with h
    injection h with h1 _
    rw [h1]
    rfl
  | k + 1, r, out, o, r', h => by
    unfold decs at h
    cases hq : numD r with
    | none => rw [hq] at h; cases h
    | some p =>
      obtain ⟨x, r2⟩ := p
      rw [hq] at h
      have := decs_len k r2 (out ++ [x]) o r' h
      rw [List.length_append] at this
      simp at this
      omega
theorem decF_len (s : ByteArray) (n : Int) : (decF s n).1.length ≤ 16777216 := by
  unfold decF
  split
  · exact Nat.zero_le _
  · split
    · exact Nat.zero_le _
    · cases hq : decs n.toNat ⟨ofD s, ones, 42⟩ [] with
      | none => exact Nat.zero_le _
      | some p =>
        obtain ⟨o, r⟩ := p
        have := decs_len _ _ _ _ _ hq
        show o.length ≤ _
        rw [List.length_nil] at this
        omega
set_option maxHeartbeats 8000000 in
set_option maxRecDepth 100000 in
theorem Decodes_any (s : ByteArray) (hs : s.size ≤ 140737488351232) (n : Int) (w : World) :
    Calls Try.prog 5 #[.string s, .int .i64 n] w fun e w' => e = .returned (.bool true) ∧ Below w.heap.size w w' := by
  by_cases hg : 3000 < n ∧ n ≤ 16777216
  · obtain ⟨h1, h2⟩ := hg
    go_enter Try.func5, Try.ntmps5
    go_wp2_with fail
    with_reducible refine (awake_any _).mono ?_
    rintro e w1 ⟨rfl, hB⟩
    have HB1 := Aside0.mk hB
    clear hB
    go_wp2
    go_ret
    exact ⟨rfl, HB1.out⟩
  · have hg2 : (¬ 3000 < n) ∨ (3000 < n ∧ ¬ n ≤ 16777216) := by omega
    have HD := Aside0.mk (Decode_any s (by omega) n w)
    have HRD := Aside0.mk (fun W => RDecode_any s (by omega) n W)
    have hl := decF_len s n
    clear hg
    generalize decF s n = F at HD HRD hl
    rcases hg2 with h1 | ⟨h1, h2⟩
    all_goals
      go_enter Try.func5, Try.ntmps5
      go_wp2_with fail
      with_reducible refine HD.out.mono ?_
      rintro e w1 ⟨v1, rfl, hG1, hB1⟩
      have HB1 := Aside0.mk hB1
      have HG1 := Aside0.mk hG1
      clear hB1 hG1 HD
      go_wp2_with fail
      with_reducible refine (HRD.out _).mono ?_
      rintro e w2 ⟨v2, rfl, hG2, hB2⟩
      have HB2 := Aside0.mk (HB1.out.trans (hB2.mono HB1.out.size))
      obtain ⟨A1, c1, rfl, hc1, hC1⟩ := (HG1.out.below hB2).C
      obtain ⟨A2, c2, rfl, hc2, hC2⟩ := hG2.C
      have HI := Aside0.mk (Ints_same F.1 (by omega) A1 c1 A2 c2 w2 hC1 hc1 hC2 hc2)
      clear hB2 hG2 hC1 hC2 HG1 HB1 HRD
      go_wp2_with fail
      with_reducible refine HI.out.mono ?_
      rintro e w3 ⟨rfl, hd⟩
      have HB3 := Aside0.mk (HB2.out.trans (hd.below.mono HB2.out.size))
      clear hd HI HB2
      generalize F.2.1 = p
      generalize F.2.2 = q
      go_wp2_with fail
      with_reducible refine (awake_any _).mono ?_
      rintro e w4 ⟨rfl, hB⟩
      have HB4 := Aside0.mk (HB3.out.trans (hB.mono HB3.out.size))
      clear hB HB3
      go_wp2
      go_ret
      exact ⟨rfl, HB4.out⟩
end Go.Proofs.Ytoologbaoifheaa.Hand
