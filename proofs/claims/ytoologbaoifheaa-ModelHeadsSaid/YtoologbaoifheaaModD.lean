/- Contracts of layer 19, proved by hand: Encode. -/
import Derived.Test.YtoologbaoifheaaMathD
namespace Go.Proofs.Ytoologbaoifheaa.Hand
open Go.RowKit Go.Proofs.Ytoologbaoifheaa.Q Go.Proofs.Ytoologbaoifheaa.Math Go.Proofs.YtoologbaoifheaaW.PrintWords Go.Proofs.YtoologbaoifheaaW.PrintLast Go.Proofs.YtoologbaoifheaaW.PrintMore
set_option linter.unusedVariables false
set_option linter.unusedSimpArgs false

theorem CntAt.moved {w w' : World} {B g gc : Nat} {v v' : Value} {E : Enc} {c : List Int} {s : Int} (hc : CntAt w gc c s) (he : EncAt w B g v E) (hm : Moved B g w v w' v') : CntAt w' gc c s := by
  refine ⟨blk_kept hc.1 hm.kept (fun h => ?_), hc.2⟩
  rcases h with e | e
  · have h1 := he.1
    rw [← e, hc.1] at h1
    injection h1 with h1
    injection h1 with h1 h2
    exact absurd h2 (by decide)
  · exact (Kd.R_ne he.2.1.all hc.1 (by decide)) e.symm
theorem EncAt.turned {w w' : World} {B B2 g gc : Nat} {v : Value} {E : Enc} {c : List Int} {s : Int} (he : EncAt w B g v E) (hc : CntAt w gc c s) (hm : Turned B2 gc w w') : EncAt w' B g v E := by
  refine ⟨blk_kept he.1 hm.kept (fun e => ?_), Kd.R_kept he.2.1 hm.kept (fun k hk e => ?_), he.2.2⟩
  · have h1 := he.1
    rw [e, hc.1] at h1
    injection h1 with h1
    injection h1 with h1 h2
    exact absurd h2 (by decide)
  · subst e
    exact (Kd.R_ne he.2.1.all hc.1 (by decide)) hk.symm
theorem mask_i64 (x k : Nat) (hx : x < 2 ^ 41) (hk : k ≤ 16) : Go.bits .and .i64 (x : Int) (IntKind.i64.wrap (IntKind.i64.wrap (2 ^ k) - 1)) = ((x % 2 ^ k : Nat) : Int) := by
  have hp0 : (0 : Int) < 2 ^ k := Int.pow_pos (by decide)
  have hp : (2 : Int) ^ k ≤ 65536 := by
    have h := Nat.pow_le_pow_right (n := 2) (by decide) hk
    have h2 : (2 : Nat) ^ 16 = 65536 := by decide
    have h3 : ((2 ^ k : Nat) : Int) ≤ 65536 := by omega
    simpa using h3
  rw [and_mask_i64 k (by omega) (x : Int) _ (by omega) (by omega) (by
    generalize (2 : Int) ^ k = P at hp0 hp
    rw [IntKind.wrap_i64, IntKind.wrap_i64]
    omega)]
  simp
/-- What Encode gives. -/
def encF (l : List Int) : ByteArray × Int := if ∀ n ∈ l, inB n then (finishS (runS l).e, 0) else (⟨#[]⟩, 1)
set_option maxHeartbeats 8000000 in
set_option maxRecDepth 100000 in
theorem Encode_any (l : List Int) (A : Option Addr) (c : Nat) (w : World) (hr : ReadsInt w .i64 A l.length l) (hl : l.length ≤ 1000000) (hin : ∀ n ∈ l, -9223372036854775808 ≤ n ∧ n ≤ 9223372036854775807) :
    Calls Try.prog 13 #[.slice A l.length c] w fun e w' => e = .returned (.tuple #[.string (encF l).1, .int .i64 (encF l).2]) ∧ Below w.heap.size w w' := by
  have hup := Try.underlying42
  have HR := Aside0.mk hr
  have HI := Aside0.mk hin
  have HF : Aside0 (encF l = if ∀ n ∈ l, inB n then (finishS (runS l).e, 0) else (⟨#[]⟩, 1)) := ⟨rfl⟩
  clear hr hin
  go_enter Try.func13, Try.ntmps13
  go_wp2
  go_loopw [18] (fun iv wr => ∃ i : Nat, i ≤ l.length ∧ iv = .int .i64 i ∧ Aside0 (∀ n ∈ l.take i, inB n) ∧ wr = w) (fun iv _ => l.length - (intOf iv).toNat)
  case atStart => exact ⟨0, by omega, rfl, ⟨fun n hn => by simp at hn⟩, rfl⟩
  case round =>
    obtain ⟨i, hi, rfl, HB, hww⟩ := hrel
    have hw2 := hww.symm
    clear hww
    subst hw2
    by_cases hlt : i < l.length
    · have i0 : (0 : Int) ≤ (i : Int) := by omega
      have i1 : (i : Int) < (l.length : Int) := by omega
      obtain ⟨ad, rfl, hx⟩ := HR.out.at_ (i : Int) (by omega) i1
      rw [Int.toNat_natCast] at hx
      have ht : l.take (i + 1) = l.take i ++ [rd l (i : Int)] := by
        rw [List.take_succ_eq_append_getElem hlt]
        simp [rd, hlt]
      have hm : rd l (i : Int) ∈ l := by simp [rd, hlt]
      have hxi := HI.out _ hm
      have HMEM := Aside0.mk hm
      generalize rd l (i : Int) = x at hx ht hxi HMEM
      clear hm
      by_cases hb : inB x
      · have HB2 : Aside0 (∀ n ∈ l.take (i + 1), inB n) := ⟨fun n hn => by
          rw [ht] at hn
          rcases List.mem_append.1 hn with hn | hn
          · exact HB.out n hn
          · rw [List.mem_singleton.1 hn]; exact hb⟩
        have hq : (x / 1099511627776 != x / 9223372036854775808) = false := by
          have : x / 1099511627776 = x / 9223372036854775808 := by unfold inB at hb; omega
          simp [this]
        clear ht hb
        go_wp2
        go_roundw
        case rel => exact ⟨i + 1, by omega, by go_num, HB2, by trivial⟩
        case measure => simp [intOf]; omega
      · have hq : (x / 1099511627776 != x / 9223372036854775808) = true := by
          have : x / 1099511627776 ≠ x / 9223372036854775808 := by unfold inB at hb; omega
          simpa using this
        have HRES : Aside0 (encF l = (⟨#[]⟩, 1)) := ⟨by rw [HF.out, if_neg (fun q => hb (q x HMEM.out))]⟩
        clear ht hb
        go_wp2
        go_ret2
        rw [HRES.out]
        exact ⟨rfl, Below.refl _ _⟩
    · obtain rfl : i = l.length := by omega
      rw [List.take_length] at HB
      have HRES : Aside0 (encF l = (finishS (runS l).e, 0)) := ⟨by rw [HF.out, if_pos HB.out]⟩
      clear HF
      go_wp2_with fail
      refine (New_any _).mono ?_
      rintro e w1 ⟨rfl, rfl⟩
      have HE1 := Aside0.mk (new_at w w.heap.size (Nat.le_refl _))
      have HB1 : Aside0 (Below w.heap.size w (w.alloc (.cells (encCells newE (.slice none 0 0)) 82))) := ⟨below_alloc (Below.refl _ _) _⟩
      generalize w.alloc (.cells (encCells newE (.slice none 0 0)) 82) = w1 at HE1 HB1 ⊢
      go_wp2_with fail
      refine (begun_any _).mono ?_
      rintro e w2 ⟨rfl, hC, hB⟩
      have HC2 := Aside0.mk hC
      have HE2 := Aside0.mk (HE1.out.below hB)
      have HB2 := Aside0.mk (HB1.out.trans (hB.mono HB1.out.size))
      have hgb : w.heap.size ≤ w1.heap.size := HB1.out.size
      clear hC hB HE1 HB1
      obtain ⟨b, hbb⟩ : ∃ b, w.heap.size = b := ⟨_, rfl⟩
      have HBB := Aside0.mk hbb
      rw [hbb] at HE2 HB2 hgb ⊢
      clear hbb
      generalize w1.heap.size = gc at HC2 hgb ⊢
      go_wp2
      go_loopw [32] (fun iv wq => ∃ (i : Nat) (v : Value), i ≤ l.length ∧ iv = .int .i64 i ∧ Aside0 (EncAt wq b b v (runS (l.take i)).e) ∧ Aside0 (CntAt wq gc (runS (l.take i)).c (runS (l.take i)).s) ∧ Aside0 (Below b w wq)) (fun iv _ => l.length - (intOf iv).toNat)
      case atStart => exact ⟨0, _, by omega, rfl, HE2, HC2, HB2⟩
      case round =>
        clear HE2 HC2 HB2 hlt hi
        obtain ⟨i, v, hi, rfl, HE, HC, HBW⟩ := hrel
        by_cases hlt : i < l.length
        · have i0 : (0 : Int) ≤ (i : Int) := by omega
          have i1 : (i : Int) < (l.length : Int) := by omega
          obtain ⟨ad, rfl, hx⟩ := (HR.out.below (by rw [HBB.out]; exact HBW.out)).at_ (i : Int) (by omega) i1
          rw [Int.toNat_natCast] at hx
          have ht : l.take (i + 1) = l.take i ++ [rd l (i : Int)] := by
            rw [List.take_succ_eq_append_getElem hlt]
            simp [rd, hlt]
          have hm : rd l (i : Int) ∈ l := by simp [rd, hlt]
          have hxi := HI.out _ hm
          have hxb := HB.out _ hm
          have hok := run_ok (l.take i) (fun n hn => HB.out n (List.mem_of_mem_take hn))
          have hlen : (l.take i).length = i := by rw [List.length_take]; omega
          rw [hlen] at hok
          have hnx := runS_snoc (l.take i) (rd l (i : Int))
          rw [← ht] at hnx
          generalize rd l (i : Int) = x at hx hxi hxb hnx
          generalize runS (l.take i) = t at HE HC hok hnx
          have hk := class_lt x hxb
          obtain ⟨hu1, hu2⟩ := numU_lt x hxb
          have hst : stepS t x = ⟨lowE (numU x) 42 (blen (numU x) - 1) (putE (belowC t.c (blen (numU x))) (t.c.getD (blen (numU x)) 0) t.s t.e), (sawC t.c t.s (blen (numU x))).1, (sawC t.c t.s (blen (numU x))).2⟩ := rfl
          rw [hst] at hnx
          have HFO := Aside0.mk (fun W => Fold_any x hxi.1 hxi.2 W)
          rw [hu2] at HFO
          generalize numU x = u at hk hu1 hnx HFO
          have HLE := Aside0.mk (fun W => Len_any u (by omega) W)
          obtain ⟨k, hkk⟩ : ∃ k, blen u = k := ⟨_, rfl⟩
          rw [hkk] at hk hnx HLE
          have HNX := Aside0.mk hnx
          have HOK := Aside0.mk hok
          have huw : IntKind.u64.wrap (u : Int) = (u : Int) := by rw [u64_wrap]; omega
          have HU1 := Aside0.mk hu1
          clear ht hm hlen hnx hok hst hkk hxi hxb hu1 hu2
          go_wp2_with fail
          refine (HFO.out _).mono ?_
          rintro e w3 ⟨rfl, hd3⟩
          go_wp2_with fail
          refine (HLE.out _).mono ?_
          rintro e w4 ⟨rfl, hd4⟩
          have HE4 := Aside0.mk ((HE.out.below hd3.below).below hd4.below)
          have HC4 := Aside0.mk ((HC.out.below hd3.below).below hd4.below)
          have HB4 : Aside0 (Below b w w4) := ⟨(HBW.out.trans (hd3.below.mono (by have := HE.out.lt; omega))).trans (hd4.below.mono (by have := (HE.out.below hd3.below).lt; omega))⟩
          clear hd3 hd4 hx HE HC HBW HFO HLE
          go_wp2_with fail
          refine (span_any t.c t.s HOK.out.cnt.small k hk gc w4 HC4.out).mono ?_
          rintro e w5 ⟨rfl, hd⟩
          have HE5 := Aside0.mk (HE4.out.below hd.below)
          have HC5 := Aside0.mk (HC4.out.below hd.below)
          have HB5 : Aside0 (Below b w w5) := ⟨HB4.out.trans (hd.below.mono (by have := HE4.out.lt; omega))⟩
          clear hd HE4 HC4 HB4
          have cT : w5.cell? ⟨gc, 42, none⟩ = some (.int .i64 t.s) := HC5.out.total
          have HPM := Aside0.mk (HOK.out.cnt.part k hk)
          have HPO := Aside0.mk (put_ok _ _ _ HOK.out.fit HOK.out.wid HOK.out.size HPM.out)
          have HPC := Aside0.mk (Put_yes (belowC t.c k) (t.c.getD k 0) t.s t.e b b v w5 HE5.out HOK.out.fit.good HOK.out.wid HPM.out (by have := HOK.out.size; omega))
          obtain ⟨f0, hf0⟩ : ∃ f0, belowC t.c k = f0 := ⟨_, rfl⟩
          obtain ⟨n0, hn0⟩ : ∃ n0, t.c.getD k 0 = n0 := ⟨_, rfl⟩
          rw [hf0, hn0] at HPO HPC HNX ⊢
          clear hf0 hn0
          go_wp2_with fail
          refine HPC.out.mono ?_
          rintro e w6 ⟨rfl, v6, hE, hM⟩
          have HE6 := Aside0.mk hE
          have HC6 := Aside0.mk (HC5.out.moved HE5.out hM)
          have HB6 := Aside0.mk (HB5.out.trans hM.below)
          clear hE hM cT HE5 HC5 HB5 HPC HPM
          generalize putE f0 n0 t.s t.e = E0 at HE6 HPO HNX
          obtain ⟨q1, q2, q3⟩ := HPO.out
          have HLOW := Aside0.mk (low_ok u 42 (k - 1) E0 _ q1 q2 q3)
          have HQ := Aside0.mk (And.intro q1 (And.intro q2 q3))
          clear q1 q2 q3 HPO
          obtain ⟨E9, hE9⟩ : ∃ E9, lowE u 42 (k - 1) E0 = E9 := ⟨_, rfl⟩
          rw [hE9] at HNX HLOW
          have HE9 := Aside0.mk hE9
          clear hE9
          have k0 : (0 : Int) ≤ (k : Int) := by omega
          have k1 : (k : Int) < 42 := by omega
          have ekl : IntKind.i64.wrap ((k : Int) - 1) = (k : Int) - 1 := by rw [IntKind.wrap_i64]; omega
          have HKK := Aside0.mk hk
          go_wp2
          go_loopg [14] 42 (fun f lv wr => ∃ (z : Int) (E : Enc) (v' : Value), lv = .int .i64 z ∧ -1 ≤ z ∧ z ≤ 41 ∧ z.toNat ≤ f ∧ Aside0 (lowE u f z.toNat E = E9) ∧ Aside0 (EncAt wr b b v' E) ∧ Aside0 (CntAt wr gc t.c t.s) ∧ Aside0 (Below b w wr) ∧ Aside0 (Fits E ∧ 16777216 ≤ E.width ∧ sizeE E + 3 * f ≤ 1 + 129 * i + 3 + 3 * 42))
          case atStart =>
            exact ⟨(k : Int) - 1, E0, v6, rfl, by omega, by omega, by omega, ⟨by rw [show ((k : Int) - 1).toNat = k - 1 by omega]; exact HE9.out⟩, HE6, HC6, HB6, ⟨HQ.out.1, HQ.out.2.1, by have := HQ.out.2.2; omega⟩⟩
          case round =>
            clear HE6 HC6 HB6 HQ HE9
            obtain ⟨z, E, v', rfl, z0, z1, hzf, HL, HE, HC, HBW, HQ⟩ := hrel
            by_cases hz : z > 0
            · cases gk with
              | zero => exact absurd hzf (by omega)
              | succ f =>
                obtain ⟨left, rfl⟩ : ∃ left : Nat, z = (left : Int) := ⟨z.toNat, by omega⟩
                rw [Int.toNat_natCast] at HL hzf
                have hl0 : 0 < left := by omega
                have hll : lowE u (f + 1) left E = lowE u f (left - ((left - 1) % 16 + 1)) (putE ((u / 2 ^ (left - ((left - 1) % 16 + 1)) % 2 ^ ((left - 1) % 16 + 1) : Nat) : Int) 1 (2 ^ ((left - 1) % 16 + 1)) E) := by
                  show (if left = 0 then E else _) = _
                  rw [if_neg (by omega)]
                have hbp := low_piece u left hl0
                obtain ⟨V, hV⟩ : ∃ V, (left - 1) % 16 = V := ⟨_, rfl⟩
                obtain ⟨W, hW⟩ : ∃ W, V + 1 = W := ⟨_, rfl⟩
                obtain ⟨R, hR⟩ : ∃ R, left - W = R := ⟨_, rfl⟩
                rw [hV, hW, hR] at hll hbp
                have w1 : 1 ≤ W ∧ W ≤ 16 := by omega
                obtain ⟨w1, w2⟩ := w1
                have e1 : IntKind.i64.wrap ((left : Int) - 1) = (left : Int) - 1 := by rw [IntKind.wrap_i64]; omega
                have e2 : ((left : Int) - 1).tmod 16 = (V : Int) := by rw [Int.tmod_eq_emod_of_nonneg (by omega)]; omega
                have e3 : IntKind.i64.wrap ((V : Int) + 1) = (W : Int) := by rw [IntKind.wrap_i64]; omega
                have e4 : IntKind.i64.wrap ((left : Int) - (W : Int)) = (R : Int) := by rw [IntKind.wrap_i64]; omega
                have r0 : (0 : Int) ≤ (R : Int) := by omega
                have r1 : (R : Int) < 64 := by omega
                have v0 : (0 : Int) ≤ (W : Int) := by omega
                have v1 : (W : Int) < 64 := by omega
                have hud : u / 2 ^ R < 2 ^ 41 := Nat.lt_of_le_of_lt (Nat.div_le_self _ _) HU1.out
                have hmk := mask_i64 (u / 2 ^ R) W hud w2
                rw [show ((u / 2 ^ R : Nat) : Int) = (u : Int) / 2 ^ R by simp] at hmk
                obtain ⟨N, hN⟩ : ∃ N, u / 2 ^ R % 2 ^ W = N := ⟨_, rfl⟩
                rw [hN] at hmk hbp hll
                have HLL := Aside0.mk (hll.symm.trans HL.out)
                have HBC := Aside0.mk (fun X (hX : EncAt X b b v' E) => Bits_yes (N : Int) (W : Int) E b b v' X hX HQ.out.1.good HQ.out.2.1 hbp (by have := HQ.out.2.2; omega))
                rw [Int.toNat_natCast] at HBC
                have hbm := bits_may _ _ hbp
                rw [Int.toNat_natCast] at hbm
                have HPO := Aside0.mk (put_ok (N : Int) 1 (2 ^ W) HQ.out.1 HQ.out.2.1 (Nat.le_refl _) hbm)
                have HRW := Aside0.mk hR
                have HMK := Aside0.mk hmk
                have ewr : ∀ x : Int, IntKind.i64.wrap x = wrap64 x := fun x => by rw [IntKind.wrap_i64]; unfold wrap64; omega
                rw [ewr, ewr] at hmk
                have HMK2 := Aside0.mk hmk
                clear ewr
                clear hll hbp hmk hbm hud hN hV hW hR HL
                go_wp2
                go_still_tail 9, (by kernel_rfl)
                repeat still_step
                have HEd : Aside0 (EncAt wr.drew b b v' E) := ⟨HE.out.below (below_drew (Below.refl _ _))⟩
                have HCd : Aside0 (CntAt wr.drew gc t.c t.s) := ⟨HC.out.drew⟩
                have HBd : Aside0 (Below b w wr.drew) := ⟨below_drew HBW.out⟩
                clear HE HC HBW
                change wpList _ _ _ _ _ wr.drew
                generalize wr.drew = wz at HEd HCd HBd ⊢
                go_wp2_with fail
                (try rw [HMK.out]); (try rw [HMK2.out])
                with_reducible refine (HBC.out _ HEd.out).mono ?_
                rintro e w7 ⟨rfl, v7, hE, hM⟩
                have HE7 := Aside0.mk hE
                have HC7 := Aside0.mk (HCd.out.moved HEd.out hM)
                have HB7 := Aside0.mk (HBd.out.trans hM.below)
                clear hE hM HBC HMK HMK2
                go_wp2
                go_roundg f
                case measure => omega
                case rel => exact ⟨(R : Int), _, v7, rfl, by omega, by have := HRW.out; omega, by have := HRW.out; omega, ⟨by rw [Int.toNat_natCast]; exact HLL.out⟩, HE7, HC7, HB7, ⟨HPO.out.1, HPO.out.2.1, by have := HPO.out.2.2; have := HQ.out.2.2; omega⟩⟩
            · have hzn : z.toNat = 0 := by omega
              have he : E = E9 := by
                have := HL.out
                rw [hzn] at this
                rw [← this]
                cases gk <;> simp [lowE]
              subst he
              clear hzn HL
              have HSW := Aside0.mk (saw_any t.c t.s HOK.out.cnt.small k HKK.out (by have h1 := HOK.out.cnt.at k HKK.out; have h2 := HOK.out.cnt.top; omega) (by have h1 := HOK.out.cnt.at k HKK.out; omega) (by have h2 := HOK.out.cnt.top; omega) b gc hgb wr HC.out)
              go_wp2_with fail
              refine HSW.out.mono ?_
              rintro e w8 ⟨rfl, hC, hT⟩
              have HC8 := Aside0.mk hC
              have HE8 := Aside0.mk (HE.out.turned HC.out hT)
              have HB8 := Aside0.mk (HBW.out.trans hT.below)
              clear hC hT HE HC HBW HSW
              go_wp2
              go_roundw
              case rel => exact ⟨i + 1, v', by omega, by go_num, by rw [HNX.out]; exact HE8, by rw [HNX.out]; exact HC8, HB8⟩
              case measure => simp [intOf]; omega
        · obtain rfl : i = l.length := by omega
          have hok := run_ok (l.take l.length) (fun n hn => HB.out n (List.mem_of_mem_take hn))
          rw [List.take_length] at HE hok
          have HFI := Aside0.mk (fun W v (h : EncAt W b b v (runS l).e) => Finish_any (runS l).e b b v W h hok.fit.good (by have := hok.size; omega))
          clear hok
          go_wp2_with fail
          refine (HFI.out _ _ HE.out).mono ?_
          rintro e w9 ⟨rfl, v9, hE, hM⟩
          have HB9 := Aside0.mk (HBW.out.trans hM.below)
          clear hE hM
          go_wp2
          go_ret2
          rw [HRES.out]
          exact ⟨rfl, by rw [HBB.out]; exact HB9.out⟩
end Go.Proofs.Ytoologbaoifheaa.Hand
