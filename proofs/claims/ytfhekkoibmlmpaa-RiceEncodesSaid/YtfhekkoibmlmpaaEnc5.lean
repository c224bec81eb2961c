/- Texts of this claim's proof, laid behind each other by a program of ours, without what the proof does not reach: Contracts of layer 8, proved by hand: Encode writes (method 1); Words for rows of whole numbers of one's own; Contracts of layer 8, proved by hand: what a partition reads; Contracts of layer 8, proved by hand: partition (parameters of 4 bits); Contracts of layer 8, proved by hand: partition (parameters of 5 bits); Two rows in a struct's block, each grown by a number: what a region that draws its order does; Contracts of layer 8, proved by hand: Decode's words; Contracts of layer 8, proved by hand: Decode, where it is refused at once; Contracts of layer 8, proved by hand: Decode, where it is refused behind its head; Contracts of layer 8, proved by hand: Decode, words of its loop; Contracts of layer 8, proved by hand: Decode, where its head may be (method 0) -/
import Derived.Laws.StructEq
import Derived.Laws.CopyOwn
import Derived.Laws.ResultCell
import Derived.Laws.Tables
import Derived.Test.YtfhekkoibmlmpaaEnc1
import Derived.Test.YtfhekkoibmlmpaaEnc2
import Derived.Test.YtfhekkoibmlmpaaEnc3
import Derived.Test.YtfhekkoibmlmpaaEnc4
import Derived.Test.YtfhekkoibmlmpaaEncWApart
import Derived.Test.YtfhekkoibmlmpaaEncWFoot
import Derived.Test.YtfhekkoibmlmpaaEncWGuard
import Derived.Test.YtfhekkoibmlmpaaEncWInv
import Derived.Test.YtfhekkoibmlmpaaEncWKept
import Derived.Test.YtfhekkoibmlmpaaEncWLast
import Derived.Test.YtfhekkoibmlmpaaEncWMore
import Derived.Test.YtfhekkoibmlmpaaEncWN
import Derived.Test.YtfhekkoibmlmpaaEncWRepsOne
import Derived.Test.YtfhekkoibmlmpaaEncWShare
import Derived.Test.YtfhekkoibmlmpaaEncWTab
import Derived.Test.YtfhekkoibmlmpaaEncWWords
/- Contracts of layer 8, proved by hand: Encode writes (method 1). -/
namespace Go.Proofs.Ytfhekkoibmlmpaa.Hand
open Go.RowKit Go.Proofs.Ytfhekkoibmlmpaa.Q Go.Proofs.YtfhekkoibmlmpaaW.PrintWords Go.Proofs.YtfhekkoibmlmpaaW.PrintLast Go.Proofs.YtfhekkoibmlmpaaW.PrintMore
set_option linter.unusedVariables false
set_option linter.unusedSimpArgs false

set_option maxHeartbeats 16000000 in
set_option maxRecDepth 100000 in
theorem Encode_yes1 (O n Bk Or : Nat) (AP AE A : Option Addr) (cP cE c : Nat) (ps es l : List Int) (bs : List Bool) (B g : Nat) (v : Value) (w : World) (ho : O ≤ 15) (hb : Bk ≤ 65535) (hord : Or ≤ 32) (hdiv : Bk = 2 ^ O * n) (hn : Or ≤ n) (hl : l.length + Or = Bk) (hps : ps.length = 2 ^ O) (hes : es.length = 2 ^ O)
    (hok : ∀ i : Nat, i < ps.length → okPE 1 (rd ps (i : Int)) (rd es (i : Int))) (hin : ∀ x ∈ l, -9223372036854775808 ≤ x ∧ x ≤ 9223372036854775807) (hcP : ps.length ≤ cP) (hcE : es.length ≤ cE) (hc : l.length ≤ c)
    (hW : WAt w B g v bs) (hP : ListAt w g v AP ps) (hE : ListAt w g v AE es) (hA : ListAt w g v A l) (hck : checkP 1 O ps es Bk Or) (hall : allMay n Or ps es l ps.length = true) (hbs : bs.length + 4398046511104 < 1125899906842624) :
    Calls Try.prog 13 #[.pointer (some ⟨g, 0, none⟩), .agg #[.int .i64 1, .int .i64 O, .slice AP ps.length cP, .slice AE es.length cE], .int .i64 Bk, .int .i64 Or, .slice A l.length c] w fun e w' => e = .returned (.int .i64 0) ∧ ∃ v', WAt w' B g v' (bs ++ (nbits 1 2 ++ (nbits O 4 ++ partsX 5 n Or ps es l ps.length))) ∧ Moved B g w v w' v' := by
  have hup := Try.underlying28
  obtain ⟨kk, hk⟩ := (check_ev 1 O ps es Bk Or (by omega) (by omega)).rounds
  rw [if_pos hck] at hk
  have HK : Aside0 (∀ W, Below w.heap.size w W → Calls Try.prog 18 #[.agg #[.int .i64 1, .int .i64 O, .slice AP ps.length cP, .slice AE es.length cE], .int .i64 Bk, .int .i64 Or] W fun e w' => e = .returned (.int .i64 0) ∧ Below W.heap.size W w') :=
    ⟨fun W hW => rice_Check.calls kk 1 O AP cP ps AE cE es Bk Or _ W (Kd.C_below hP.1 hW) hcP (Kd.C_below hE.1 hW) hcE hk⟩
  have HOK := Aside0.mk hok
  have HALL := Aside0.mk hall
  have HIN := Aside0.mk hin
  have hl6 : l.length ≤ 65535 := by omega
  have hle1 : ps.length ≤ es.length := by omega
  have hpl : ps.length ≤ 32768 := by
    have : 2 ^ O ≤ 2 ^ 15 := Nat.pow_le_pow_right (by decide) ho
    omega
  have hpn : ps.length * n ≤ 65535 := by rw [hps, ← hdiv]; exact hb
  have hn6 : n ≤ 65535 := by
    have hp : 0 < 2 ^ O := Nat.two_pow_pos O
    have : 1 * n ≤ 2 ^ O * n := Nat.mul_le_mul_right n hp
    omega
  have HLEN : Aside0 (∀ i, i ≤ ps.length → (partsX 5 n Or ps es l i).length ≤ 10 * i + 16777300 * (i * n) ∧ i * n ≤ 65535) := ⟨fun i hi => by
    refine ⟨partsX_length 5 n Or ps es l ps.length i (by omega) hall (fun j hj => ?_) hi, Nat.le_trans (Nat.mul_le_mul_right n hi) hpn⟩
    obtain ⟨k0, k1, e0, e1, _⟩ := hok j hj
    exact ⟨k0, by split at k1 <;> omega, e1⟩⟩
  have HMAY : Aside0 (∀ (i : Nat) W A', Kd.C (Kd.int .i64) W A' (partL l n Or i).length (partL l n Or i) → i < ps.length → Calls Try.prog 31 #[.slice A' (partL l n Or i).length (partL l n Or i).length, .int .i64 (rd ps (i : Int)), .int .i64 (rd es (i : Int))] W fun e w' => e = .returned (.bool true) ∧ Below W.heap.size W w') := ⟨fun i W A' hC hi => by
    obtain ⟨k0, k1, e0, e1, _⟩ := hok i hi
    have hn6 : n ≤ 65535 := by
      have hp : 0 < 2 ^ O := Nat.two_pow_pos O
      have : 1 * n ≤ 2 ^ O * n := Nat.mul_le_mul_right n hp
      omega
    have hlen := partL_length l n Or i
    have h := may_any (partL l n Or i) A' (partL l n Or i).length _ _ W (Kd.reads_of_C (d := (0 : Int)) (enc := Value.int .i64) hC) (by omega) (fun x hx => hin x (List.mem_of_mem_take (List.mem_of_mem_drop hx))) k0 (by split at k1 <;> omega) e0 e1
    rw [allMay_at hall i hi] at h
    exact h⟩
  have HCUT : Aside0 (∀ (i : Nat) W, Kd.C (Kd.int .i64) W A l.length l → i < ps.length → Calls Try.prog 32 #[.slice A l.length c, .agg #[.int .i64 1, .int .i64 O, .slice AP ps.length cP, .slice AE es.length cE], .int .i64 Bk, .int .i64 Or, .int .i64 i] W fun e w' => ∃ A', e = .returned (.slice A' (partL l n Or i).length (partL l n Or i).length) ∧ Kd.C (Kd.int .i64) w' A' (partL l n Or i).length (partL l n Or i) ∧ (∀ ad', A' = some ad' → ∃ ad, A = some ad ∧ ad'.block = ad.block) ∧ Below W.heap.size W w') := ⟨fun i W hW hi =>
    cut_part l A c 1 O AP AE ps.length cP es.length cE Bk Or i n ho hb hord hdiv hn (by omega) hl hc W hW⟩
  have hne : (((l.length : Int)) != (Bk : Int) - (Or : Int)) = false := bne_eq_false_iff_eq.mpr (by omega)
  obtain ⟨wz, hwz⟩ : ∃ wz, wz = w.heap.size := ⟨_, rfl⟩
  have HWZ := Aside0.mk hwz
  have hS1 : EncSt w B g wz #[.int .i64 1, .int .i64 O, .slice AP ps.length cP, .slice AE es.length cE] AP AE A ps es l v (w.alloc (.cells #[.int .i64 1, .int .i64 O, .slice AP ps.length cP, .slice AE es.length cE] 24)) v bs := by
    have hbel : Below w.heap.size w (w.alloc (.cells #[.int .i64 1, .int .i64 O, .slice AP ps.length cP, .slice AE es.length cE] 24)) := below_alloc (Below.refl _ _) _
    exact ⟨hW.below hbel, (Moved.refl B g w v).new hbel (by have := hW.lt; have := hW.2.2; omega), by rw [hwz]; exact blk_new w _, hP.below hbel, hE.below hbel, hA.below hbel⟩
  have HS1 := Aside0.mk hS1
  clear hk hP hE hA hck hall hok hin hdiv hps hes hl hwz hn hW hS1
  go_enter Try.func13, Try.ntmps13
  go_wp2_with fail
  with_reducible refine (HK.out _ (below_alloc (Below.refl _ _) _)).mono ?_
  rintro e w2 ⟨rfl, hB⟩
  have HS2 := Aside0.mk (HS1.out.below hB)
  clear hB HS1 HK
  rw [← HWZ.out]
  have b2 := blk_cell HS2.out.box 2
  go_wp2
  go_loopw [38] (fun iv wr => ∃ i : Nat, i ≤ ps.length ∧ iv = .int .i64 i ∧ Aside0 (EncSt w B g wz #[.int .i64 1, .int .i64 O, .slice AP ps.length cP, .slice AE es.length cE] AP AE A ps es l v wr v bs)) (fun iv _ => ps.length - (intOf iv).toNat)
  case atStart => exact ⟨0, by omega, rfl, HS2⟩
  case round =>
    clear HS2 b2
    obtain ⟨i, hi, rfl, HS⟩ := hrel
    by_cases hlt : i < ps.length
    · have i0 : (0 : Int) ≤ (i : Int) := by omega
      have i1 : (i : Int) < (ps.length : Int) := by omega
      have i2 : (i : Int) < (es.length : Int) := by omega
      obtain ⟨adP, rfl, hxP⟩ := HS.out.P.reads.at_ (i : Int) (by omega) i1
      obtain ⟨adE, rfl, hxE⟩ := HS.out.E.reads.at_ (i : Int) (by omega) i2
      rw [Int.toNat_natCast] at hxP hxE
      have HMAYi : Aside0 (∀ W A', Kd.C (Kd.int .i64) W A' (partL l n Or i).length (partL l n Or i) → _) := ⟨fun W A' h => HMAY.out i W A' h hlt⟩
      have HCUTi : Aside0 (∀ W, Kd.C (Kd.int .i64) W A l.length l → _) := ⟨fun W h => HCUT.out i W h hlt⟩
      have HSK : Aside0 (∀ W, EncSt w B g wz #[.int .i64 1, .int .i64 O, .slice (some adP) ps.length cP, .slice (some adE) es.length cE] (some adP) (some adE) A ps es l v W v bs → W.cell? ⟨wz, 0, none⟩ = some (.int .i64 1) ∧ W.cell? ⟨wz, 1, none⟩ = some (.int .i64 O) ∧ W.cell? ⟨wz, 2, none⟩ = some (.slice (some adP) ps.length cP) ∧ W.cell? ⟨wz, 3, none⟩ = some (.slice (some adE) es.length cE) ∧ W.cell? (adE.add i) = some (.int .i64 (rd es (i : Int)))) := ⟨fun W h1 => by
        have hb := h1.box
        obtain ⟨ad, e1, e2⟩ := h1.E.reads.at_ (i : Int) (by omega) i2
        injection e1 with e1
        subst e1
        rw [Int.toNat_natCast] at e2
        exact ⟨blk_cell hb 0, blk_cell hb 1, blk_cell hb 2, blk_cell hb 3, e2⟩⟩
      generalize rd ps (i : Int) = kk at hxP HMAYi
      generalize rd es (i : Int) = ee at hxE HMAYi HSK
      generalize (partL l n Or i).length = nn at HMAYi HCUTi
      generalize partL l n Or i = pl at HMAYi HCUTi
      have hCL : ∀ W y, EncSt w B g wz #[.int .i64 1, .int .i64 O, .slice (some adP) ps.length cP, .slice (some adE) es.length cE] (some adP) (some adE) A ps es l v W y bs → Kd.C (Kd.int .i64) W A l.length l := fun W y h => h.L.1
      have HCL := Aside0.mk hCL
      clear hCL
      have hsr := HS.out.below (below_drew (Below.refl wr.heap.size wr))
      clear HMAY HCUT HS
      go_wp2
      go_region_held3 (fun W => W.cell? ⟨wz, 0, none⟩ = some (.int .i64 1) ∧ W.cell? ⟨wz, 1, none⟩ = some (.int .i64 O) ∧ W.cell? ⟨wz, 2, none⟩ = some (.slice (some adP) ps.length cP) ∧ W.cell? ⟨wz, 3, none⟩ = some (.slice (some adE) es.length cE) ∧ W.cell? (adE.add i) = some (.int .i64 ee)) (first | exact HSK.out _ hsr)
        ((first | (go_at_call 32; (with_reducible refine (HCUTi.out _ (HCL.out _ _ hsr)).mono ?_); rintro e w4 ⟨A4, rfl, hC4, _, hn4⟩; have hs2 := hsr.below hn4; clear hsr hn4; have hsr := hs2; clear hs2) | (go_at_call 31; (with_reducible refine (HMAYi.out _ _ hC4).mono ?_); rintro e w4 ⟨rfl, hn4⟩; have hs2 := hsr.below hn4; clear hsr hn4; have hsr := hs2; clear hs2)))
      all_goals
        have HS4 := Aside0.mk hsr
        clear hsr
        go_wp2
        go_roundw
        case rel => exact ⟨i + 1, by omega, by go_num, HS4⟩
        case measure => simp [intOf]; omega
    · obtain rfl : i = ps.length := by omega
      clear hlt hi HMAY
      have d0 := blk_cell HS.out.box 0
      have d1 := blk_cell HS.out.box 1
      have HP1 := Aside0.mk (Put_i 1 2 (nbits 1 2) rfl (by omega) (by omega) (by omega) (by decide) bs B g v wr HS.out.wat (by omega))
      go_wp2_with fail
      with_reducible refine HP1.out.mono ?_
      rintro e w3 ⟨rfl, v3, hw3, hm3⟩
      have HS3 := Aside0.mk (HS.out.step hw3 hm3)
      clear hw3 hm3 HS HP1 d0 d1
      have d0 := blk_cell HS3.out.box 0
      have d1 := blk_cell HS3.out.box 1
      have HP1 := Aside0.mk (Put_i O 4 (nbits O 4) rfl (by omega) (by omega) (by omega) (by rw [show (2 : Int) ^ (4 : Int).toNat = 16 by decide]; omega) _ B g v3 w3 HS3.out.wat (by rw [List.length_append, nbits_length]; omega))
      go_wp2_with fail
      with_reducible refine HP1.out.mono ?_
      rintro e w4 ⟨rfl, v4, hw4, hm4⟩
      have HS4 := HS3.out.step hw4 hm4
      rw [List.append_assoc] at HS4
      have HS5 := Aside0.mk HS4
      clear hw4 hm4 HS3 HP1 d0 d1 HS4
      have d2 := blk_cell HS5.out.box 2
      go_wp2
      go_loopw [74] (fun iv wr => ∃ (i : Nat) (u : Value), i ≤ ps.length ∧ iv = .int .i64 i ∧ Aside0 (EncSt w B g wz #[.int .i64 1, .int .i64 O, .slice AP ps.length cP, .slice AE es.length cE] AP AE A ps es l v wr u (bs ++ (nbits 1 2 ++ (nbits O 4 ++ partsX 5 n Or ps es l i))))) (fun iv _ => ps.length - (intOf iv).toNat)
      case atStart => exact ⟨0, v4, by omega, rfl, ⟨by simpa [partsX] using HS5.out⟩⟩
      case round =>
        clear HS5 d2
        obtain ⟨i, u, hi, rfl, HS⟩ := hrel
        by_cases hlt : i < ps.length
        · have i0 : (0 : Int) ≤ (i : Int) := by omega
          have i1 : (i : Int) < (ps.length : Int) := by omega
          have i2 : (i : Int) < (es.length : Int) := by omega
          obtain ⟨adP, rfl, hxP⟩ := HS.out.P.reads.at_ (i : Int) (by omega) i1
          obtain ⟨adE, rfl, hxE⟩ := HS.out.E.reads.at_ (i : Int) (by omega) i2
          rw [Int.toNat_natCast] at hxP hxE
          have HCUTi : Aside0 (∀ W, Kd.C (Kd.int .i64) W A l.length l → _) := ⟨fun W h => HCUT.out i W h hlt⟩
          have hLC : ∀ {W : World} {y : Value} {A' : Option Addr}, ListAt W g y A l → Kd.C (Kd.int .i64) W A' (partL l n Or i).length (partL l n Or i) → (∀ ad', A' = some ad' → ∃ ad, A = some ad ∧ ad'.block = ad.block) → ListAt W g y A' (partL l n Or i) := fun h h2 h3 => h.cut h2 h3
          have HLC := Aside0.mk @hLC
          have hmay := allMay_at HALL.out i hlt
          obtain ⟨k0, k1, e0, e1, ek⟩ := HOK.out i hlt
          have hsz := HLEN.out i hi
          have hlp := partL_length l n Or i
          have hnx : (i + 1) * n = i * n + n := Nat.succ_mul i n
          have hnx2 := (HLEN.out (i + 1) (by omega)).2
          have hpi : ∀ x ∈ partL l n Or i, -9223372036854775808 ≤ x ∧ x ≤ 9223372036854775807 := fun x hx => HIN.out x (List.mem_of_mem_take (List.mem_of_mem_drop hx))
          have HPI := Aside0.mk hpi
          have hX : partsX 5 n Or ps es l (i + 1) = partsX 5 n Or ps es l i ++ (headX 5 (rd ps (i : Int)) (rd es (i : Int)) ++ bodyX (rd ps (i : Int)) (rd es (i : Int)) (partL l n Or i)) := partsX_snoc 5 n Or ps es l i
          have HX := Aside0.mk hX
          have k2 : rd ps (i : Int) < 31 := by simp at k1; omega
          obtain ⟨X, hXX⟩ : ∃ X, bs ++ (nbits 1 2 ++ (nbits O 4 ++ partsX 5 n Or ps es l i)) = X := ⟨_, rfl⟩
          have hXl : X.length + 20000000 + 16777300 * n < 1125899906842624 := by
            rw [← hXX, List.length_append, List.length_append, List.length_append, nbits_length, nbits_length]
            omega
          have HNX : Aside0 (∀ Y, Y = X ++ (headX 5 (rd ps (i : Int)) (rd es (i : Int)) ++ bodyX (rd ps (i : Int)) (rd es (i : Int)) (partL l n Or i)) → Y = bs ++ (nbits 1 2 ++ (nbits O 4 ++ partsX 5 n Or ps es l (i + 1)))) := ⟨fun Y hY => by rw [hY, ← hXX, HX.out]; simp⟩
          rw [hXX] at HS
          clear hX HX hXX hpi hLC hsz hnx hnx2 k1
          generalize rd ps (i : Int) = kk at hxP hmay k0 k2 ek HNX
          generalize rd es (i : Int) = ee at hxE hmay e0 e1 ek HNX
          have HPL : Aside0 ((partL l n Or i).length ≤ n) := ⟨hlp⟩
          have hp65 : (partL l n Or i).length ≤ 65535 := by omega
          generalize hpl2 : partL l n Or i = pl at HCUTi hmay HPI HNX HLC HPL hp65
          clear hpl2 hlp HCUT HLEN HALL HOK HIN
          have HMY := Aside0.mk hmay
          clear hmay
          have HBE : Aside0 (∀ x ∈ pl, mayOk kk ee x = true) := ⟨fun x hx => (List.all_eq_true.1 HMY.out) x hx⟩
          obtain ⟨K, rfl⟩ := Int.eq_ofNat_of_zero_le k0
          have hK30 : K < 31 := by omega
          have d3 := blk_cell HS.out.box 3
          by_cases he : ee < 0
          · have hhd : headX 5 (K : Int) ee = nbits K 5 := by unfold headX; rw [if_pos he, Int.toNat_natCast]
            rw [hhd] at HNX
            clear hhd ek
            have HP1 := Aside0.mk (Put_i K 5 (nbits K 5) rfl (by omega) (by omega) (by omega) (by rw [show (2 : Int) ^ (5 : Int).toNat = 31 + 1 by decide]; omega) _ B g u wr HS.out.wat (by omega))
            go_wp2_with fail
            with_reducible refine HP1.out.mono ?_
            rintro e w5 ⟨rfl, v5, hw5, hm5⟩
            have HS5 := Aside0.mk (HS.out.step hw5 hm5)
            clear hw5 hm5 HS HP1 d3 hxP hxE
            have d0 := blk_cell HS5.out.box 0
            have d1 := blk_cell HS5.out.box 1
            have d2 := blk_cell HS5.out.box 2
            have d3 := blk_cell HS5.out.box 3
            have HCC := Aside0.mk (HCUTi.out _ HS5.out.L.1)
            go_wp2_with fail
            with_reducible refine HCC.out.mono ?_
            rintro e w6 ⟨A6, rfl, hC6, hA6, hn6⟩
            have HS6 := Aside0.mk (HS5.out.below hn6)
            have HL6 := Aside0.mk (HLC.out HS6.out.L hC6 hA6)
            clear hC6 hA6 hn6 HS5 HCC HCUTi HLC d0 d1 d2 d3
            go_wp2
            go_loopw [108] (fun jv wr => ∃ (j : Nat) (y : Value), j ≤ pl.length ∧ jv = .int .i64 j ∧ Aside0 (EncSt w B g wz #[.int .i64 1, .int .i64 O, .slice (some adP) ps.length cP, .slice (some adE) es.length cE] (some adP) (some adE) A ps es l v wr y (X ++ (nbits K 5 ++ bodyX K ee (pl.take j)))) ∧ Aside0 (ListAt wr g y A6 pl)) (fun jv _ => pl.length - (intOf jv).toNat)
            case atStart => exact ⟨0, v5, by omega, rfl, ⟨by simpa [bodyX] using HS6.out⟩, HL6⟩
            case round =>
              clear HS6 HL6
              obtain ⟨j, y, hj, rfl, HS, HL⟩ := hrel
              by_cases hjl : j < pl.length
              · have j0 : (0 : Int) ≤ (j : Int) := by omega
                have j1 : (j : Int) < (pl.length : Int) := by omega
                obtain ⟨adL, rfl, hx⟩ := HL.out.reads.at_ (j : Int) (by omega) j1
                rw [Int.toNat_natCast] at hx
                obtain ⟨x0, x1⟩ := HPI.out _ (rd_mem pl j hjl)
                have hmx := HBE.out _ (rd_mem pl j hjl)
                have hbl := bodyX_length K ee (pl.take j) (mayF_take pl K ee j HMY.out) (by omega) (by omega) e1
                have htl : (pl.take j).length = j := by rw [List.length_take]; omega
                have hsn := bodyX_snoc K ee pl j hjl
                have hpn9 := HPL.out
                have hri : riceP (rd pl (j : Int)) (K : Nat) := by
                  unfold mayOk at hmx
                  rw [if_pos he] at hmx
                  exact ⟨by omega, by omega, of_decide_eq_true hmx⟩
                have hcx : codeX K ee (rd pl (j : Int)) = riceB (rd pl (j : Int)) K := by unfold codeX; rw [if_pos he, Int.toNat_natCast]
                have HR1 := Aside0.mk (Rice_yes (rd pl (j : Int)) K x0 x1 hri _ B g y wr HS.out.wat (by rw [List.length_append, List.length_append, nbits_length]; omega))
                have HNB : Aside0 (∀ Y, Y = (X ++ (nbits K 5 ++ bodyX K ee (pl.take j))) ++ riceB (rd pl (j : Int)) K → Y = X ++ (nbits K 5 ++ bodyX K ee (pl.take (j + 1)))) := ⟨fun Y hY => by rw [hY, hsn, hcx]; simp⟩
                clear hmx hbl htl hsn hri hcx hpn9
                generalize rd pl (j : Int) = x at hx x0 x1 HR1 HNB
                go_wp2_with fail
                with_reducible refine HR1.out.mono ?_
                rintro e w7 ⟨rfl, v7, hw7, hm7⟩
                have hl7 := HL.out.moved hm7
                have hs7 := HS.out.step hw7 hm7
                rw [HNB.out _ rfl] at hs7
                have HS7 := Aside0.mk hs7
                have HL7 := Aside0.mk hl7
                clear hw7 hm7 hs7 hl7 HS HL HR1 HNB
                go_wp2
                go_roundw
                case rel => exact ⟨j + 1, v7, by omega, by go_num, HS7, HL7⟩
                case measure => simp [intOf]; omega
              · obtain rfl : j = pl.length := by omega
                have hs8 := HS.out
                rw [List.take_length, HNX.out _ rfl] at hs8
                have HS8 := Aside0.mk hs8
                clear hs8 HS HL
                go_wp2
                go_roundw
                case rel => exact ⟨i + 1, y, by omega, by go_num, HS8⟩
                case measure => simp [intOf]; omega
          · obtain ⟨E, rfl⟩ := Int.eq_ofNat_of_zero_le (show 0 ≤ ee by omega)
            have hhd : headX 5 (K : Int) (E : Int) = nbits 31 5 ++ nbits E 5 := by unfold headX; rw [if_neg he, Int.toNat_natCast]
            rw [hhd] at HNX
            clear hhd
            have HP1 := Aside0.mk (Put_i 31 5 (nbits 31 5) rfl (by omega) (by omega) (by omega) (by decide) _ B g u wr HS.out.wat (by omega))
            go_wp2_with fail
            with_reducible refine HP1.out.mono ?_
            rintro e w5 ⟨rfl, v5, hw5, hm5⟩
            have HS5 := Aside0.mk (HS.out.step hw5 hm5)
            clear hw5 hm5 HS HP1 d3 hxP hxE
            have HP1 := Aside0.mk (Put_i E 5 (nbits E 5) rfl (by omega) (by omega) (by omega) (by rw [show (2 : Int) ^ (5 : Int).toNat = 32 by decide]; omega) _ B g v5 w5 HS5.out.wat (by rw [List.length_append, nbits_length]; omega))
            go_wp2_with fail
            with_reducible refine HP1.out.mono ?_
            rintro e w9 ⟨rfl, v9, hw9, hm9⟩
            have hs9 := HS5.out.step hw9 hm9
            rw [List.append_assoc] at hs9
            have HS9 := Aside0.mk hs9
            clear hw9 hm9 HS5 HP1 hs9
            have d0 := blk_cell HS9.out.box 0
            have d1 := blk_cell HS9.out.box 1
            have d2 := blk_cell HS9.out.box 2
            have d3 := blk_cell HS9.out.box 3
            have HCC := Aside0.mk (HCUTi.out _ HS9.out.L.1)
            go_wp2_with fail
            with_reducible refine HCC.out.mono ?_
            rintro e w6 ⟨A6, rfl, hC6, hA6, hn6⟩
            have HS6 := Aside0.mk (HS9.out.below hn6)
            have HL6 := Aside0.mk (HLC.out HS6.out.L hC6 hA6)
            clear hC6 hA6 hn6 HS9 HCC HCUTi HLC d0 d1 d2 d3
            by_cases he0 : 0 < (E : Int)
            · go_wp2
              go_loopw [108] (fun jv wr => ∃ (j : Nat) (y : Value), j ≤ pl.length ∧ jv = .int .i64 j ∧ Aside0 (EncSt w B g wz #[.int .i64 1, .int .i64 O, .slice (some adP) ps.length cP, .slice (some adE) es.length cE] (some adP) (some adE) A ps es l v wr y (X ++ ((nbits 31 5 ++ nbits E 5) ++ bodyX K E (pl.take j)))) ∧ Aside0 (ListAt wr g y A6 pl)) (fun jv _ => pl.length - (intOf jv).toNat)
              case atStart => exact ⟨0, v9, by omega, rfl, ⟨by simpa [bodyX] using HS6.out⟩, HL6⟩
              case round =>
                clear HS6 HL6
                obtain ⟨j, y, hj, rfl, HS, HL⟩ := hrel
                by_cases hjl : j < pl.length
                · have j0 : (0 : Int) ≤ (j : Int) := by omega
                  have j1 : (j : Int) < (pl.length : Int) := by omega
                  obtain ⟨adL, rfl, hx⟩ := HL.out.reads.at_ (j : Int) (by omega) j1
                  rw [Int.toNat_natCast] at hx
                  obtain ⟨x0, x1⟩ := HPI.out _ (rd_mem pl j hjl)
                  have hmx := HBE.out _ (rd_mem pl j hjl)
                  have hbl := bodyX_length K E (pl.take j) (mayF_take pl K E j HMY.out) (by omega) (by omega) e1
                  have htl : (pl.take j).length = j := by rw [List.length_take]; omega
                  have hsn := bodyX_snoc K E pl j hjl
                  have hpn9 := HPL.out
                  have hri : fitsP (rd pl (j : Int)) (E : Nat) := by
                    unfold mayOk at hmx
                    rw [if_neg (show ¬ (E : Int) < 0 by omega), if_pos he0] at hmx
                    exact of_decide_eq_true hmx
                  have hcx : codeX K E (rd pl (j : Int)) = nbits (wordN (rd pl (j : Int))) E := by unfold codeX; rw [if_neg (show ¬ (E : Int) < 0 by omega), if_pos he0, Int.toNat_natCast]
                  have HR1 := Aside0.mk (Signed_yes (rd pl (j : Int)) E x0 x1 hri _ B g y wr HS.out.wat (by rw [List.length_append, List.length_append, List.length_append, nbits_length, nbits_length]; omega))
                  have HNB : Aside0 (∀ Y, Y = (X ++ ((nbits 31 5 ++ nbits E 5) ++ bodyX K E (pl.take j))) ++ nbits (wordN (rd pl (j : Int))) E → Y = X ++ ((nbits 31 5 ++ nbits E 5) ++ bodyX K E (pl.take (j + 1)))) := ⟨fun Y hY => by rw [hY, hsn, hcx]; simp⟩
                  clear hmx hbl htl hsn hri hcx hpn9
                  generalize rd pl (j : Int) = x at hx x0 x1 HR1 HNB
                  go_wp2_with fail
                  with_reducible refine HR1.out.mono ?_
                  rintro e w7 ⟨rfl, v7, hw7, hm7⟩
                  have hl7 := HL.out.moved hm7
                  have hs7 := HS.out.step hw7 hm7
                  rw [HNB.out _ rfl] at hs7
                  have HS7 := Aside0.mk hs7
                  have HL7 := Aside0.mk hl7
                  clear hw7 hm7 hs7 hl7 HS HL HR1 HNB
                  go_wp2
                  go_roundw
                  case rel => exact ⟨j + 1, v7, by omega, by go_num, HS7, HL7⟩
                  case measure => simp [intOf]; omega
                · obtain rfl : j = pl.length := by omega
                  have hs8 := HS.out
                  rw [List.take_length, HNX.out _ rfl] at hs8
                  have HS8 := Aside0.mk hs8
                  clear hs8 HS HL
                  go_wp2
                  go_roundw
                  case rel => exact ⟨i + 1, y, by omega, by go_num, HS8⟩
                  case measure => simp [intOf]; omega
            · obtain rfl : E = 0 := by omega
              clear he he0
              go_wp2
              go_loopw [108] (fun jv wr => ∃ (j : Nat), j ≤ pl.length ∧ jv = .int .i64 j ∧ Aside0 (EncSt w B g wz #[.int .i64 1, .int .i64 O, .slice (some adP) ps.length cP, .slice (some adE) es.length cE] (some adP) (some adE) A ps es l v wr v9 (X ++ (nbits 31 5 ++ nbits 0 5))) ∧ Aside0 (ListAt wr g v9 A6 pl)) (fun jv _ => pl.length - (intOf jv).toNat)
              case atStart => exact ⟨0, by omega, rfl, HS6, HL6⟩
              case round =>
                clear HS6 HL6
                obtain ⟨j, hj, rfl, HS, HL⟩ := hrel
                by_cases hjl : j < pl.length
                · have j0 : (0 : Int) ≤ (j : Int) := by omega
                  have j1 : (j : Int) < (pl.length : Int) := by omega
                  obtain ⟨adL, rfl, hx⟩ := HL.out.reads.at_ (j : Int) (by omega) j1
                  rw [Int.toNat_natCast] at hx
                  generalize rd pl (j : Int) = x at hx
                  go_wp2
                  go_roundw
                  case rel => exact ⟨j + 1, by omega, by go_num, HS, HL⟩
                  case measure => simp [intOf]; omega
                · obtain rfl : j = pl.length := by omega
                  have hs8 := HS.out
                  rw [HNX.out (X ++ (nbits 31 5 ++ nbits 0 5)) (by
                    have : bodyX K ((0 : Nat) : Int) pl = [] := by
                      unfold bodyX codeX
                      simp
                    rw [this]
                    simp)] at hs8
                  have HS8 := Aside0.mk hs8
                  clear hs8 HS HL
                  go_wp2
                  go_roundw
                  case rel => exact ⟨i + 1, v9, by omega, by go_num, HS8⟩
                  case measure => simp [intOf]; omega
        · obtain rfl : i = ps.length := by omega
          go_wp2
          go_ret
          exact ⟨rfl, u, HS.out.wat, HS.out.mv⟩
end Go.Proofs.Ytfhekkoibmlmpaa.Hand

/- Words for rows of whole numbers of one's own. -/
namespace Go.Proofs.Ytfhekkoibmlmpaa.Hand
open Go.RowKit Go.Proofs.YtfhekkoibmlmpaaW.PrintWords Go.Proofs.YtfhekkoibmlmpaaW.PrintLast Go.Proofs.YtfhekkoibmlmpaaW.PrintMore
set_option linter.unusedVariables false
set_option linter.unusedSimpArgs false

/-- A row of whole numbers of one's own. -/
def IntsAt (w : World) (B : Nat) (v : Value) (xs : List Int) : Prop := Kd.R (Kd.int .i64) 3 w B (fun k => v.ownBlock = some k) v xs
theorem int_E : ∀ q, q ∈ 3 :: (Kd.int .i64).E → q = 3 := by
  intro q hq
  simpa [Kd.int, Kd.scalar] using hq
theorem IntsAt.of {w : World} {B : Nat} {ok : Nat → Prop} {v : Value} {xs : List Int} (h : Kd.R (Kd.int .i64) 3 w B ok v xs) : IntsAt w B v xs := by
  obtain ⟨h0, inner, hown, hr⟩ := h
  exact ⟨fun k hk => hk, inner, hown, hr.imp_ (fun _ _ hm => hm)⟩
theorem IntsAt.all {w : World} {B : Nat} {v : Value} {xs : List Int} (h : IntsAt w B v xs) : Kd.R (Kd.int .i64) 3 w B (fun _ => True) v xs := Kd.R_mono h (fun _ _ => trivial)
theorem IntsAt.nil (w : World) (B : Nat) : IntsAt w B (.slice none 0 0) [] := Kd.R_nil _ _ _ _ _
theorem IntsAt.below {w w' : World} {B : Nat} {v : Value} {xs : List Int} (h : IntsAt w B v xs) (hb : Below w.heap.size w w') : IntsAt w' B v xs := Kd.R_below h hb
theorem IntsAt.set {w : World} {B : Nat} {v : Value} {xs : List Int} (h : IntsAt w B v xs) {g t : Nat} {cells : Array Value} (hb : w.heap[g]? = some (.cells cells t (0, 0))) (ht : t ≠ 3) (j : Nat) (u : Value) : IntsAt (w.setCell ⟨g, j, none⟩ u) B v xs :=
  .of (Kd.R_set h.all hb (fun q hq => by rw [int_E q hq]; exact fun e => ht e.symm) j u)
theorem IntsAt.lt {w : World} {B : Nat} {v : Value} {xs : List Int} (h : IntsAt w B v xs) : ∀ k, v.ownBlock = some k → k < w.heap.size := fun k hk => Kd.R_lt h k hk
theorem IntsAt.C {w : World} {B : Nat} {v : Value} {xs : List Int} (h : IntsAt w B v xs) : ∃ A c, v = .slice A xs.length c ∧ xs.length ≤ c ∧ Kd.C (Kd.int .i64) w A xs.length xs := Kd.R_reads h
/-- A block of another kind is turned. -/
theorem IntsAt.kept {w w' : World} {B g : Nat} {v : Value} {xs : List Int} {cs : Array Value} {t : TypeId} (h : IntsAt w B v xs) (hb : w.heap[g]? = some (.cells cs t (0, 0))) (ht : t ≠ 3) (hk : Kept w w' (fun k => k = g)) : IntsAt w' B v xs := by
  have h1 := Kd.R_types h hb (fun q hq => by rw [int_E q hq]; exact fun e => ht e.symm)
  exact .of (Kd.R_kept h1 hk (fun k hk1 hk2 => hk1.2 hk2))
theorem IntsAt.ge {w : World} {B : Nat} {v : Value} {xs : List Int} (h : IntsAt w B v xs) : ∀ k, v.ownBlock = some k → B ≤ k := fun k hk => ((Kd.R_bound h).1 k hk).2.1
theorem IntsAt.lower {w : World} {B B2 : Nat} {v : Value} {xs : List Int} (h : IntsAt w B v xs) (hb : B2 ≤ B) : IntsAt w B2 v xs := Kd.R_lower h hb
/-- Number i of a row. -/
theorem IntsAt.place {w : World} {B : Nat} {v : Value} {xs : List Int} (h : IntsAt w B v xs) (i : Nat) (hi : i < xs.length) :
    ∃ b c, v = .slice (some ⟨b, 0, none⟩) xs.length c ∧ xs.length ≤ c ∧ (∀ j, j < xs.length → w.cell? ⟨b, j, none⟩ = some (.int .i64 (xs.getD j 0))) ∧ (∀ j, w.frozen? ⟨b, j, none⟩ = false) ∧ B ≤ b ∧ b < w.heap.size := by
  obtain ⟨inner, hown⟩ := Kd.R_own h
  obtain ⟨A, c, e, hlc, hC⟩ := Kd.R_reads h
  have hr := Kd.reads_of_C (d := (0 : Int)) (enc := Value.int .i64) hC
  rcases hown.2 with ⟨e2, h0⟩ | ⟨b, cap, cur, e2, hb, hblk, _⟩
  · omega
  · rw [e2] at e
    injection e with e3 _ e4
    subst e3 e4
    refine ⟨b, cap, e2, hlc, fun j hj => ?_, fun j => blk_frozen hblk j, hb, blk_lt hblk⟩
    obtain ⟨ad, e5, hcell⟩ := ReadsOf.at_ hr (j : Int) (by omega) (by omega)
    injection e5 with e5
    subst e5
    have : (⟨b, 0, none⟩ : Addr).add (j : Int).toNat = ⟨b, j, none⟩ := by rw [add_plain]; simp
    rw [this] at hcell
    simpa [rdOf] using hcell
/-- A number of a row is turned. -/
theorem IntsAt.store {w : World} {B b n c : Nat} {xs : List Int} (h : IntsAt w B (.slice (some ⟨b, 0, none⟩) n c) xs) (i : Nat) (y : Int) :
    IntsAt (w.setCell ⟨b, i, none⟩ (.int .i64 y)) B (.slice (some ⟨b, 0, none⟩) n c) (xs.set i y) := by
  have := Kd.R_putn (enc := Value.int .i64) (h1 := fun _ => rfl) h (i : Int) y
  rw [Int.toNat_natCast] at this
  exact this
theorem infoI : (Try.prog.info? 3).map (fun i => (i.zero, i.size, i.bytes)) = some (some (.int .i64 0), 1, 8) := by kernel_rfl
section
variable {ops : Array Oper} {o : Oper} {a : Act} {Q : Exit → Act → World → Prop} {rest : List Oper}
theorem app_ints {w0 W : World} {B : Nat} (s x : Operand) (y : Int) {v : Value} {xs : List Int} (hgd : o.guard = none)
    (ho : o.op = .call { callee := .builtin .append, args := #[s, x], argTypes := #[22, 22] }) (hs : a.eval s = v) (hx : a.eval x = .slice (some ⟨W.heap.size, 0, none⟩) 1 1)
    (HO : IntsAt W B v xs) (HB : Below B w0 W) (hB : B ≤ W.heap.size) (hl : xs.length < 17592186044415)
    (h : ∀ v1 w1, Aside0 (IntsAt w1 B v1 (xs ++ [y])) → Aside0 (Below B w0 w1) → Aside0 (W.grownBy w1 v.ownBlock) → Aside0 (v1.ownBlock = v.ownBlock ∨ ∃ b, v1.ownBlock = some b ∧ W.heap.size ≤ b) → wpList Try.prog ops Q rest (a.put o.dst v1) w1) :
    wpList Try.prog ops Q (o :: rest) a (W.alloc (.cells #[.int .i64 y] 3)) :=
  Kd.R_append (Kd.int .i64) (w0 := w0) B hgd s x 22 3 (.int .i64 0) 8 ho Try.underlying22 infoI rfl (by decide) (by omega) v xs y [.int .i64 y] (fun _ => True) (fun _ => False) hs hx rfl (fun _ hk => hk.elim)
    (fun _ _ => trivial) HO.all HB hB (by omega) (fun v1 w1 h1 h2 h3 h4 => h v1 w1 ⟨.of h1⟩ ⟨h2⟩ ⟨h3⟩ ⟨h4⟩)
end
/-- A block of another kind stays when a row grows. -/
theorem IntsAt.other {W w1 : World} {B g : Nat} {v : Value} {xs : List Int} {cs : Array Value} {t : TypeId} (h : IntsAt W B v xs) (hb : W.heap[g]? = some (.cells cs t (0, 0))) (ht : t ≠ 3) (hg : W.grownBy w1 v.ownBlock) : w1.heap[g]? = some (.cells cs t (0, 0)) := by
  rw [hg.block g (blk_lt hb) (fun e => (Kd.R_ne h.all hb (fun e2 => ht e2.symm)) e)]
  exact hb
end Go.Proofs.Ytfhekkoibmlmpaa.Hand

/- Contracts of layer 8, proved by hand: what a partition reads. -/
namespace Go.Proofs.Ytfhekkoibmlmpaa.Hand
open Go.RowKit Go.Proofs.Ytfhekkoibmlmpaa.Q Go.Proofs.YtfhekkoibmlmpaaW.PrintWords Go.Proofs.YtfhekkoibmlmpaaW.PrintLast Go.Proofs.YtfhekkoibmlmpaaW.PrintMore
set_option linter.unusedVariables false
set_option linter.unusedSimpArgs false

theorem getR_small (s : ByteArray) (p : Nat) (K : Nat) : (getR s p (K : Int)).1 < 2 ^ K := by
  unfold getR
  have hp := Nat.two_pow_pos K
  split
  · exact hp
  · split
    · exact hp
    · rw [Int.toNat_natCast]
      exact numAt_lt s p K
theorem signedR_at (s : ByteArray) (p : Nat) (k : Int) (hp : p ≤ 8 * s.size) : (signedR s p k).2.2 ≤ 8 * s.size := by
  unfold signedR
  split
  · exact hp
  · split
    · exact getR_at s p k hp
    · exact hp
theorem riceR_at (s : ByteArray) (p : Nat) (k : Int) (hp : p ≤ 8 * s.size) : (riceR s p k).2.2 ≤ 8 * s.size := by
  unfold riceR
  split
  · exact hp
  · split
    · split
      · exact getR_at s _ k (unaryR_at s p hp)
      · exact hp
    · exact hp
/-- One residual that is read. -/
def oneR (s : ByteArray) (k esc : Int) (p : Nat) : Int × Int × Nat := if esc < 0 then riceR s p k else if 0 < esc then signedR s p esc else (0, 0, p)
theorem oneR_at (s : ByteArray) (k esc : Int) (p : Nat) (hp : p ≤ 8 * s.size) : (oneR s k esc p).2.2 ≤ 8 * s.size := by
  unfold oneR
  split
  · exact riceR_at s p k hp
  · split
    · exact signedR_at s p esc hp
    · exact hp
def valsR (s : ByteArray) (k esc : Int) : Nat → List Int → Int → Nat → List Int × Int × Nat
  | 0, acc, e, p => (acc, e, p)
  | d + 1, acc, e, p => if e = 0 then valsR s k esc d (acc ++ [(oneR s k esc p).1]) (oneR s k esc p).2.1 (oneR s k esc p).2.2 else (acc, e, p)
/-- A partition's head: the parameter, the escape, the error, the place. -/
def headR (s : ByteArray) (p W : Nat) : Int × Int × Int × Nat :=
  if (getR s p (W : Int)).2.1 = 0 ∧ (getR s p (W : Int)).1 = 2 ^ W - 1 then (0, ((getR s (getR s p (W : Int)).2.2 5).1 : Int), (getR s (getR s p (W : Int)).2.2 5).2.1, (getR s (getR s p (W : Int)).2.2 5).2.2)
  else (((getR s p (W : Int)).1 : Int), -1, (getR s p (W : Int)).2.1, (getR s p (W : Int)).2.2)
def partR (s : ByteArray) (p n W : Nat) : List Int × Int × Int × Int × Nat :=
  ((valsR s (headR s p W).1 (headR s p W).2.1 n [] (headR s p W).2.2.1 (headR s p W).2.2.2).1, (headR s p W).1, (headR s p W).2.1, (valsR s (headR s p W).1 (headR s p W).2.1 n [] (headR s p W).2.2.1 (headR s p W).2.2.2).2)
theorem results_tmp4 {fn : Func} {t u v x : Tmp} (h : fn.results = #[.tmp t, .tmp u, .tmp v, .tmp x]) (tmps : Array Value) (P : Program) (w : World) :
    (results fn tmps).run P w = .ok (.tuple #[tmps.getD t undef, tmps.getD u undef, tmps.getD v undef, tmps.getD x undef]) w := by
  simp [results, h]
def lenV : Value → Nat
  | .slice _ n _ => n
  | _ => 0
theorem IntsAt.reader {w w' : World} {B B2 g : Nat} {v : Value} {xs : List Int} {s : ByteArray} {p : Nat} (h : IntsAt w B v xs) (hr : RAt w g s p) (ht : Turned B2 g w w') : IntsAt w' B v xs := h.kept hr (by decide) ht.kept
theorem RAt.list {W w1 : World} {B g : Nat} {v : Value} {xs : List Int} {s : ByteArray} {p : Nat} (hr : RAt W g s p) (h : IntsAt W B v xs) (hg : W.grownBy w1 v.ownBlock) : RAt w1 g s p := h.other hr (by decide) hg
theorem Turned.list {w W w1 : World} {B C g : Nat} {v : Value} {xs : List Int} (ht : Turned B g w W) (h : IntsAt W C v xs) (hC : w.heap.size ≤ C) (hg : W.grownBy w1 v.ownBlock) (hb : Below B w w1) : Turned B g w w1 :=
  ⟨hb, ht.kept.of_grown hg (fun k hk => .inr (Nat.le_trans hC (h.ge k hk)))⟩
/-- A list is made, with room for so many. -/
theorem make_ints (w : World) (B : Nat) (c : Nat) (hc : c ≤ 1000000) (hB : B ≤ w.heap.size) : ∃ w', (Instr.makeSlice 22 (.int .i64 0) (.int .i64 (c : Int))).run Try.prog w = .ok (.slice (some ⟨w.heap.size, 0, none⟩) 0 c) w' ∧ IntsAt w' B (.slice (some ⟨w.heap.size, 0, none⟩) 0 c) [] ∧ Below w.heap.size w w' := by
  obtain ⟨i0, h1, h2⟩ := Option.map_eq_some_iff.1 infoI
  simp only [Prod.mk.injEq] at h2
  obtain ⟨w', hr, ho, hg⟩ := run_make_own (P := Try.prog) w B 22 3 i0 (.int .i64 0) 1 Try.underlying22 h1 h2.1 h2.2.1 .i64 .i64 c (by rw [h2.2.2]; omega) (by unfold maxLen; omega) hB
  exact ⟨w', hr, ⟨fun k hk => hk, [], ho, Reps.none _ _⟩, pw_below_grown (Below.refl _ _) none (Nat.le_refl _) hg (fun k hk => by cases hk)⟩
end Go.Proofs.Ytfhekkoibmlmpaa.Hand

/- Contracts of layer 8, proved by hand: partition (parameters of 4 bits). -/
namespace Go.Proofs.Ytfhekkoibmlmpaa.Hand
open Go.RowKit Go.Proofs.Ytfhekkoibmlmpaa.Q Go.Proofs.YtfhekkoibmlmpaaW.PrintWords Go.Proofs.YtfhekkoibmlmpaaW.PrintLast Go.Proofs.YtfhekkoibmlmpaaW.PrintMore
set_option linter.unusedVariables false
set_option linter.unusedSimpArgs false
attribute [local go_sem] max2_int min2_int max_two min_two

set_option maxHeartbeats 16000000 in
set_option maxRecDepth 100000 in
theorem partition_any4 (s : ByteArray) (hs : s.size ≤ 281474976710656) (p : Nat) (hp : p ≤ 8 * s.size) (n : Nat) (hn : n ≤ 65535) (B g : Nat) (hB : B ≤ g) (w : World) (hR : RAt w g s p) :
    Calls Try.prog 42 #[.pointer (some ⟨g, 0, none⟩), .int .i64 n, .int .i64 4] w fun e w' => ∃ v, e = .returned (.tuple #[v, .int .i64 (partR s p n 4).2.1, .int .i64 (partR s p n 4).2.2.1, .bool ((partR s p n 4).2.2.2.1 == 0)]) ∧
      IntsAt w' w.heap.size v (partR s p n 4).1 ∧ RAt w' g s (partR s p n 4).2.2.2.2 ∧ Turned B g w w' := by
  have hup := Try.underlying45
  have HG := Aside0.mk (Get_any s hs p hp 4 B g hB w hR)
  have hHD : headR s p 4 = if (getR s p (4 : Int)).2.1 = 0 ∧ (getR s p (4 : Int)).1 = 15 then (0, ((getR s (getR s p (4 : Int)).2.2 5).1 : Int), (getR s (getR s p (4 : Int)).2.2 5).2.1, (getR s (getR s p (4 : Int)).2.2 5).2.2)
    else (((getR s p (4 : Int)).1 : Int), -1, (getR s p (4 : Int)).2.1, (getR s p (4 : Int)).2.2) := rfl
  have HHD := Aside0.mk hHD
  have hlt : (getR s p (4 : Int)).1 < 15 + 1 := getR_small s p 4
  have hat := getR_at s p 4 hp
  have HPR : Aside0 (partR s p n 4 = ((valsR s (headR s p 4).1 (headR s p 4).2.1 n [] (headR s p 4).2.2.1 (headR s p 4).2.2.2).1, (headR s p 4).1, (headR s p 4).2.1, (valsR s (headR s p 4).1 (headR s p 4).2.1 n [] (headR s p 4).2.2.1 (headR s p 4).2.2.2).2)) := ⟨rfl⟩
  have hgl := hR.lt
  have HS := Aside0.mk hs
  have HGE : Aside0 (∀ (q : Nat) (W : World), q ≤ 8 * s.size → RAt W g s q → Calls Try.prog 41 #[.pointer (some ⟨g, 0, none⟩), .int .i64 5] W fun e w' => e = .returned (.tuple #[.int .u64 (getR s q 5).1, .int .i64 (getR s q 5).2.1]) ∧ RAt w' g s (getR s q 5).2.2 ∧ Turned B g W w') := ⟨fun q W hq h => Get_any s hs q hq 5 B g hB W h⟩
  have HRI : Aside0 (∀ (k : Int) (q : Nat) (W : World), q ≤ 8 * s.size → RAt W g s q → Calls Try.prog 57 #[.pointer (some ⟨g, 0, none⟩), .int .i64 k] W fun e w' => e = .returned (.tuple #[.int .i64 (riceR s q k).1, .int .i64 (riceR s q k).2.1]) ∧ RAt w' g s (riceR s q k).2.2 ∧ Turned B g W w') := ⟨fun k q W hq h => RiceR_any s hs q hq k B g hB W h⟩
  have HSI : Aside0 (∀ (k : Int) (q : Nat) (W : World), q ≤ 8 * s.size → RAt W g s q → Calls Try.prog 58 #[.pointer (some ⟨g, 0, none⟩), .int .i64 k] W fun e w' => e = .returned (.tuple #[.int .i64 (signedR s q k).1, .int .i64 (signedR s q k).2.1]) ∧ RAt w' g s (signedR s q k).2.2 ∧ Turned B g W w') := ⟨fun k q W hq h => SignedR_any s hs q hq k B g hB W h⟩
  clear hHD hs hR
  generalize partR s p n 4 = PR at HPR ⊢
  generalize headR s p 4 = hd at HPR HHD
  generalize getR s p (4 : Int) = gr at HG HHD hlt hat
  obtain ⟨a, ea, q⟩ := gr
  simp only at HG HHD hlt hat
  by_cases hea : ea = 0
  · subst hea
    by_cases ha : a = 15
    · subst ha
      have HH2 := Aside0.mk (HHD.out.trans (if_pos ⟨rfl, rfl⟩))
      clear HHD
      go_enter Try.func42, Try.ntmps42
      go_wp2_with fail
      with_reducible refine HG.out.mono ?_
      rintro e w1 ⟨rfl, hr1, ht1⟩
      have HR1 := Aside0.mk hr1
      have HT1 := Aside0.mk ht1
      clear hr1 ht1 HG
      have HQ := Aside0.mk (HGE.out q w1 hat HR1.out)
      have hat2 := getR_at s q 5 hat
      have hl5 : (getR s q 5).1 < 32 := getR_small s q 5
      clear HGE
      generalize getR s q 5 = gr at HQ HH2 hat2 hl5
      obtain ⟨a2, e2, q2⟩ := gr
      simp only at HQ HH2 hat2 hl5
      go_wp2_with fail
      with_reducible refine HQ.out.mono ?_
      rintro e w2 ⟨rfl, hr2, ht2⟩
      have HR2 := Aside0.mk hr2
      have HT2 := Aside0.mk (HT1.out.trans ht2)
      clear hr2 ht2 HQ HR1 HT1
      have HPR2 : Aside0 (PR = ((valsR s 0 (a2 : Int) n [] e2 q2).1, 0, (a2 : Int), (valsR s 0 (a2 : Int) n [] e2 q2).2)) := ⟨by rw [HPR.out, HH2.out]⟩
      clear HPR HH2
      have hsz1 := HT2.out.kept.1
      obtain ⟨w3, hmk, hi3, hb3⟩ := make_ints w2 w.heap.size n (by omega) hsz1
      have HI3 := Aside0.mk hi3
      have HR3 := Aside0.mk (HR2.out.below hb3)
      have hg3 := HR2.out.lt
      have HT3 := Aside0.mk (HT2.out.new hb3 (by omega))
      obtain ⟨X, hX⟩ : ∃ X, valsR s 0 (a2 : Int) n [] e2 q2 = X := ⟨_, rfl⟩
      rw [hX] at HPR2
      have HX := Aside0.mk hX
      obtain ⟨C, hC⟩ : ∃ C, w.heap.size = C := ⟨_, rfl⟩
      have HC := Aside0.mk hC
      rw [hC] at HI3
      clear hX hi3 hb3 HR2 HT2 hC hsz1 hg3
      go_wp2
      go_loopw [11, 14] (fun ev lv wr => ∃ (e : Int) (acc : List Int) (q : Nat) (d : Nat), acc.length + d = n ∧ ev = .int .i64 e ∧ q ≤ 8 * s.size ∧ Aside0 (IntsAt wr C lv acc) ∧ Aside0 (RAt wr g s q) ∧ Aside0 (Turned B g w wr) ∧ Aside0 (valsR s 0 (a2 : Int) d acc e q = X)) (fun _ lv _ => n - lenV lv)
      case atStart => exact ⟨e2, [], q2, n, by simp, rfl, hat2, HI3, HR3, HT3, HX⟩
      case round =>
        clear HI3 HR3 HT3 HX hmk
        obtain ⟨e, acc, q, d, hd, rfl, hq, HI, HR, HT, HX⟩ := hrel
        obtain ⟨A1, c1, rfl, hc1, _⟩ := HI.out.C
        have hal : acc.length ≤ 65535 := by omega
        by_cases hlt9 : acc.length < n
        · have i1 : (acc.length : Int) < (n : Int) := by omega
          by_cases he : e = 0
          · subst he
            obtain ⟨d2, rfl⟩ : ∃ d2, d = d2 + 1 := ⟨d - 1, by omega⟩
            have HX2 : Aside0 (valsR s 0 (a2 : Int) d2 (acc ++ [(oneR s 0 (a2 : Int) q).1]) (oneR s 0 (a2 : Int) q).2.1 (oneR s 0 (a2 : Int) q).2.2 = X) := ⟨by have := HX.out; unfold valsR at this; rw [if_pos rfl] at this; exact this⟩
            have hoat := oneR_at s 0 (a2 : Int) q hq
            have hg3 := HR.out.lt
            have hBw : B ≤ wr.heap.size := by omega
            clear HX
            by_cases hx0 : 0 < (a2 : Int)
            · have ho : oneR s 0 (a2 : Int) q = signedR s q (a2 : Int) := by unfold oneR; rw [if_neg (by omega), if_pos hx0]
              rw [ho] at HX2 hoat
              have HQ := Aside0.mk (HSI.out (a2 : Int) q wr hq HR.out)
              clear ho
              generalize signedR s q (a2 : Int) = gr at HQ HX2 hoat
              obtain ⟨y, e2, q2⟩ := gr
              simp only at HQ HX2 hoat
              go_wp2_with fail
              with_reducible refine HQ.out.mono ?_
              rintro e w5 ⟨rfl, hr5, ht5⟩
              have HI5 := Aside0.mk (HI.out.reader HR.out ht5)
              have HR5 := Aside0.mk hr5
              have HT5 := Aside0.mk (HT.out.trans ht5)
              have hB5 : C ≤ w5.heap.size := by rw [← HC.out]; exact HT5.out.kept.1
              clear hr5 ht5 HI HR HT HQ
              go_wp2_with (at_builtin; (with_reducible refine app_ints (w0 := w5) (B := C) (v := .slice A1 acc.length c1) (xs := acc) (.tmp 67) (.tmp 69) y ?_ ?_ ?_ ?_ ?_ ?_ ?_ ?_ ?_); rfl; rfl; rfl; rfl; exact HI5.out; exact Below.refl _ _; exact hB5; omega; intro v1 w6 HI6 HB6 HG6 HO6; obtain ⟨A2, c2, e9, hc2, _⟩ := HI6.out.C; subst e9)
              have HR6 := Aside0.mk (HR5.out.list HI5.out HG6.out)
              have HT6 := Aside0.mk (HT5.out.list HI5.out (by rw [HC.out]; exact Nat.le_refl _) HG6.out (HT5.out.below.trans (pw_below_grown (Below.refl _ _) _ (by have := HR5.out.lt; omega) HG6.out (fun k hk => by have := HI5.out.ge k hk; have := HC.out; have := hgl; omega))))
              go_roundw
              case rel => exact ⟨e2, acc ++ [y], q2, d2, by rw [List.length_append, List.length_singleton]; omega, rfl, hoat, ⟨by have h9 := HI6.out; rw [List.length_append, List.length_singleton] at h9; exact h9⟩, HR6, HT6, HX2⟩
              case measure => simp [lenV]; omega
            · have ho : oneR s 0 (a2 : Int) q = (0, 0, q) := by unfold oneR; rw [if_neg (by omega), if_neg hx0]
              rw [ho] at HX2
              have hB5 : C ≤ wr.heap.size := by rw [← HC.out]; exact HT.out.kept.1
              clear ho hoat
              go_wp2_with (at_builtin; (with_reducible refine app_ints (w0 := wr) (B := C) (v := .slice A1 acc.length c1) (xs := acc) (.tmp 67) (.tmp 69) 0 ?_ ?_ ?_ ?_ ?_ ?_ ?_ ?_ ?_); rfl; rfl; rfl; rfl; exact HI.out; exact Below.refl _ _; exact hB5; omega; intro v1 w6 HI6 HB6 HG6 HO6; obtain ⟨A2, c2, e9, hc2, _⟩ := HI6.out.C; subst e9)
              have HR6 := Aside0.mk (HR.out.list HI.out HG6.out)
              have HT6 := Aside0.mk (HT.out.list HI.out (by rw [HC.out]; exact Nat.le_refl _) HG6.out (HT.out.below.trans (pw_below_grown (Below.refl _ _) _ (by have := HR.out.lt; omega) HG6.out (fun k hk => by have := HI.out.ge k hk; have := HC.out; have := hgl; omega))))
              go_roundw
              case rel => exact ⟨0, acc ++ [0], q, d2, by rw [List.length_append, List.length_singleton]; omega, rfl, hq, ⟨by have h9 := HI6.out; rw [List.length_append, List.length_singleton] at h9; exact h9⟩, HR6, HT6, HX2⟩
              case measure => simp [lenV]; omega
          · have hne : (e == 0) = false := beq_eq_false_iff_ne.mpr he
            have HX2 : Aside0 (X = (acc, e, q)) := ⟨by
              have := HX.out
              cases d with
              | zero => exact this.symm
              | succ d => unfold valsR at this; rw [if_neg he] at this; exact this.symm⟩
            clear HX he
            go_wp2
            ((try simp only [Exit.inBlock, Exit.then]); refine bodyPost_ret (results_tmp4 rfl _ _ _) rfl ?_)
            rw [HPR2.out, HX2.out]
            simp only [hne]
            exact ⟨_, rfl, by rw [HC.out]; exact HI.out, HR.out, HT.out⟩
        · have hd0 : d = 0 := by omega
          subst hd0
          have HX2 : Aside0 (X = (acc, e, q)) := ⟨HX.out.symm⟩
          have i2 : ¬ (acc.length : Int) < (n : Int) := by omega
          clear HX
          cases hee : e == 0 with
          | true =>
            go_wp2
            ((try simp only [Exit.inBlock, Exit.then]); refine bodyPost_ret (results_tmp4 rfl _ _ _) rfl ?_)
            rw [HPR2.out, HX2.out]
            simp only [hee]
            exact ⟨_, rfl, by rw [HC.out]; exact HI.out, HR.out, HT.out⟩
          | false =>
            go_wp2
            ((try simp only [Exit.inBlock, Exit.then]); refine bodyPost_ret (results_tmp4 rfl _ _ _) rfl ?_)
            rw [HPR2.out, HX2.out]
            simp only [hee]
            exact ⟨_, rfl, by rw [HC.out]; exact HI.out, HR.out, HT.out⟩
    · have hne : ((a : Int) == 15) = false := beq_eq_false_iff_ne.mpr (by omega)
      have HH2 := Aside0.mk (HHD.out.trans (if_neg (fun h => ha h.2)))
      have e20 : (0 : Int) = 0 := rfl
      clear HHD ha e20
      go_enter Try.func42, Try.ntmps42
      go_wp2_with fail
      with_reducible refine HG.out.mono ?_
      rintro e w2 ⟨rfl, hr2, ht2⟩
      have HR2 := Aside0.mk hr2
      have HT2 := Aside0.mk ht2
      clear hr2 ht2 HG HGE
      have HPR2 : Aside0 (PR = ((valsR s (a : Int) (-1) n [] 0 q).1, (a : Int), (-1), (valsR s (a : Int) (-1) n [] 0 q).2)) := ⟨by rw [HPR.out, HH2.out]⟩
      clear HPR HH2
      have hsz1 := HT2.out.kept.1
      obtain ⟨w3, hmk, hi3, hb3⟩ := make_ints w2 w.heap.size n (by omega) hsz1
      have HI3 := Aside0.mk hi3
      have HR3 := Aside0.mk (HR2.out.below hb3)
      have hg3 := HR2.out.lt
      have HT3 := Aside0.mk (HT2.out.new hb3 (by omega))
      obtain ⟨X, hX⟩ : ∃ X, valsR s (a : Int) (-1) n [] 0 q = X := ⟨_, rfl⟩
      rw [hX] at HPR2
      have HX := Aside0.mk hX
      obtain ⟨C, hC⟩ : ∃ C, w.heap.size = C := ⟨_, rfl⟩
      have HC := Aside0.mk hC
      rw [hC] at HI3
      clear hX hi3 hb3 HR2 HT2 hC hsz1 hg3
      go_wp2
      go_loopw [11, 14] (fun ev lv wr => ∃ (e : Int) (acc : List Int) (q : Nat) (d : Nat), acc.length + d = n ∧ ev = .int .i64 e ∧ q ≤ 8 * s.size ∧ Aside0 (IntsAt wr C lv acc) ∧ Aside0 (RAt wr g s q) ∧ Aside0 (Turned B g w wr) ∧ Aside0 (valsR s (a : Int) (-1) d acc e q = X)) (fun _ lv _ => n - lenV lv)
      case atStart => exact ⟨0, [], q, n, by simp, rfl, hat, HI3, HR3, HT3, HX⟩
      case round =>
        clear HI3 HR3 HT3 HX hmk
        obtain ⟨e, acc, q, d, hd, rfl, hq, HI, HR, HT, HX⟩ := hrel
        obtain ⟨A1, c1, rfl, hc1, _⟩ := HI.out.C
        have hal : acc.length ≤ 65535 := by omega
        by_cases hlt9 : acc.length < n
        · have i1 : (acc.length : Int) < (n : Int) := by omega
          by_cases he : e = 0
          · subst he
            obtain ⟨d2, rfl⟩ : ∃ d2, d = d2 + 1 := ⟨d - 1, by omega⟩
            have HX2 : Aside0 (valsR s (a : Int) (-1) d2 (acc ++ [(oneR s (a : Int) (-1) q).1]) (oneR s (a : Int) (-1) q).2.1 (oneR s (a : Int) (-1) q).2.2 = X) := ⟨by have := HX.out; unfold valsR at this; rw [if_pos rfl] at this; exact this⟩
            have hoat := oneR_at s (a : Int) (-1) q hq
            have hg3 := HR.out.lt
            have hBw : B ≤ wr.heap.size := by omega
            clear HX
            have ho : oneR s (a : Int) (-1) q = riceR s q (a : Int) := by unfold oneR; rw [if_pos (by omega)]
            rw [ho] at HX2 hoat
            have HQ := Aside0.mk (HRI.out (a : Int) q wr hq HR.out)
            clear ho
            generalize riceR s q (a : Int) = gr at HQ HX2 hoat
            obtain ⟨y, e2, q2⟩ := gr
            simp only at HQ HX2 hoat
            go_wp2_with fail
            with_reducible refine HQ.out.mono ?_
            rintro e w5 ⟨rfl, hr5, ht5⟩
            have HI5 := Aside0.mk (HI.out.reader HR.out ht5)
            have HR5 := Aside0.mk hr5
            have HT5 := Aside0.mk (HT.out.trans ht5)
            have hB5 : C ≤ w5.heap.size := by rw [← HC.out]; exact HT5.out.kept.1
            clear hr5 ht5 HI HR HT HQ
            go_wp2_with (at_builtin; (with_reducible refine app_ints (w0 := w5) (B := C) (v := .slice A1 acc.length c1) (xs := acc) (.tmp 67) (.tmp 69) y ?_ ?_ ?_ ?_ ?_ ?_ ?_ ?_ ?_); rfl; rfl; rfl; rfl; exact HI5.out; exact Below.refl _ _; exact hB5; omega; intro v1 w6 HI6 HB6 HG6 HO6; obtain ⟨A2, c2, e9, hc2, _⟩ := HI6.out.C; subst e9)
            have HR6 := Aside0.mk (HR5.out.list HI5.out HG6.out)
            have HT6 := Aside0.mk (HT5.out.list HI5.out (by rw [HC.out]; exact Nat.le_refl _) HG6.out (HT5.out.below.trans (pw_below_grown (Below.refl _ _) _ (by have := HR5.out.lt; omega) HG6.out (fun k hk => by have := HI5.out.ge k hk; have := HC.out; have := hgl; omega))))
            go_roundw
            case rel => exact ⟨e2, acc ++ [y], q2, d2, by rw [List.length_append, List.length_singleton]; omega, rfl, hoat, ⟨by have h9 := HI6.out; rw [List.length_append, List.length_singleton] at h9; exact h9⟩, HR6, HT6, HX2⟩
            case measure => simp [lenV]; omega
          · have hne : (e == 0) = false := beq_eq_false_iff_ne.mpr he
            have HX2 : Aside0 (X = (acc, e, q)) := ⟨by
              have := HX.out
              cases d with
              | zero => exact this.symm
              | succ d => unfold valsR at this; rw [if_neg he] at this; exact this.symm⟩
            clear HX he
            go_wp2
            ((try simp only [Exit.inBlock, Exit.then]); refine bodyPost_ret (results_tmp4 rfl _ _ _) rfl ?_)
            rw [HPR2.out, HX2.out]
            simp only [hne]
            exact ⟨_, rfl, by rw [HC.out]; exact HI.out, HR.out, HT.out⟩
        · have hd0 : d = 0 := by omega
          subst hd0
          have HX2 : Aside0 (X = (acc, e, q)) := ⟨HX.out.symm⟩
          have i2 : ¬ (acc.length : Int) < (n : Int) := by omega
          clear HX
          cases hee : e == 0 with
          | true =>
            go_wp2
            ((try simp only [Exit.inBlock, Exit.then]); refine bodyPost_ret (results_tmp4 rfl _ _ _) rfl ?_)
            rw [HPR2.out, HX2.out]
            simp only [hee]
            exact ⟨_, rfl, by rw [HC.out]; exact HI.out, HR.out, HT.out⟩
          | false =>
            go_wp2
            ((try simp only [Exit.inBlock, Exit.then]); refine bodyPost_ret (results_tmp4 rfl _ _ _) rfl ?_)
            rw [HPR2.out, HX2.out]
            simp only [hee]
            exact ⟨_, rfl, by rw [HC.out]; exact HI.out, HR.out, HT.out⟩
  · have hne : (ea == 0) = false := beq_eq_false_iff_ne.mpr hea
    have HH2 := Aside0.mk (HHD.out.trans (if_neg (fun h => hea h.1)))
    clear HHD hea
    go_enter Try.func42, Try.ntmps42
    go_wp2_with fail
    with_reducible refine HG.out.mono ?_
    rintro e w2 ⟨rfl, hr2, ht2⟩
    have HR2 := Aside0.mk hr2
    have HT2 := Aside0.mk ht2
    clear hr2 ht2 HG HGE
    have HPR2 : Aside0 (PR = ((valsR s (a : Int) (-1) n [] ea q).1, (a : Int), (-1), (valsR s (a : Int) (-1) n [] ea q).2)) := ⟨by rw [HPR.out, HH2.out]⟩
    clear HPR HH2
    have hsz1 := HT2.out.kept.1
    obtain ⟨w3, hmk, hi3, hb3⟩ := make_ints w2 w.heap.size n (by omega) hsz1
    have HI3 := Aside0.mk hi3
    have HR3 := Aside0.mk (HR2.out.below hb3)
    have hg3 := HR2.out.lt
    have HT3 := Aside0.mk (HT2.out.new hb3 (by omega))
    obtain ⟨X, hX⟩ : ∃ X, valsR s (a : Int) (-1) n [] ea q = X := ⟨_, rfl⟩
    rw [hX] at HPR2
    have HX := Aside0.mk hX
    obtain ⟨C, hC⟩ : ∃ C, w.heap.size = C := ⟨_, rfl⟩
    have HC := Aside0.mk hC
    rw [hC] at HI3
    clear hX hi3 hb3 HR2 HT2 hC hsz1 hg3
    go_wp2
    go_loopw [11, 14] (fun ev lv wr => ∃ (e : Int) (acc : List Int) (q : Nat) (d : Nat), acc.length + d = n ∧ ev = .int .i64 e ∧ q ≤ 8 * s.size ∧ Aside0 (IntsAt wr C lv acc) ∧ Aside0 (RAt wr g s q) ∧ Aside0 (Turned B g w wr) ∧ Aside0 (valsR s (a : Int) (-1) d acc e q = X)) (fun _ lv _ => n - lenV lv)
    case atStart => exact ⟨ea, [], q, n, by simp, rfl, hat, HI3, HR3, HT3, HX⟩
    case round =>
      clear HI3 HR3 HT3 HX hmk
      obtain ⟨e, acc, q, d, hd, rfl, hq, HI, HR, HT, HX⟩ := hrel
      obtain ⟨A1, c1, rfl, hc1, _⟩ := HI.out.C
      have hal : acc.length ≤ 65535 := by omega
      by_cases hlt9 : acc.length < n
      · have i1 : (acc.length : Int) < (n : Int) := by omega
        by_cases he : e = 0
        · subst he
          obtain ⟨d2, rfl⟩ : ∃ d2, d = d2 + 1 := ⟨d - 1, by omega⟩
          have HX2 : Aside0 (valsR s (a : Int) (-1) d2 (acc ++ [(oneR s (a : Int) (-1) q).1]) (oneR s (a : Int) (-1) q).2.1 (oneR s (a : Int) (-1) q).2.2 = X) := ⟨by have := HX.out; unfold valsR at this; rw [if_pos rfl] at this; exact this⟩
          have hoat := oneR_at s (a : Int) (-1) q hq
          have hg3 := HR.out.lt
          have hBw : B ≤ wr.heap.size := by omega
          clear HX
          have ho : oneR s (a : Int) (-1) q = riceR s q (a : Int) := by unfold oneR; rw [if_pos (by omega)]
          rw [ho] at HX2 hoat
          have HQ := Aside0.mk (HRI.out (a : Int) q wr hq HR.out)
          clear ho
          generalize riceR s q (a : Int) = gr at HQ HX2 hoat
          obtain ⟨y, e2, q2⟩ := gr
          simp only at HQ HX2 hoat
          go_wp2_with fail
          with_reducible refine HQ.out.mono ?_
          rintro e w5 ⟨rfl, hr5, ht5⟩
          have HI5 := Aside0.mk (HI.out.reader HR.out ht5)
          have HR5 := Aside0.mk hr5
          have HT5 := Aside0.mk (HT.out.trans ht5)
          have hB5 : C ≤ w5.heap.size := by rw [← HC.out]; exact HT5.out.kept.1
          clear hr5 ht5 HI HR HT HQ
          go_wp2_with (at_builtin; (with_reducible refine app_ints (w0 := w5) (B := C) (v := .slice A1 acc.length c1) (xs := acc) (.tmp 67) (.tmp 69) y ?_ ?_ ?_ ?_ ?_ ?_ ?_ ?_ ?_); rfl; rfl; rfl; rfl; exact HI5.out; exact Below.refl _ _; exact hB5; omega; intro v1 w6 HI6 HB6 HG6 HO6; obtain ⟨A2, c2, e9, hc2, _⟩ := HI6.out.C; subst e9)
          have HR6 := Aside0.mk (HR5.out.list HI5.out HG6.out)
          have HT6 := Aside0.mk (HT5.out.list HI5.out (by rw [HC.out]; exact Nat.le_refl _) HG6.out (HT5.out.below.trans (pw_below_grown (Below.refl _ _) _ (by have := HR5.out.lt; omega) HG6.out (fun k hk => by have := HI5.out.ge k hk; have := HC.out; have := hgl; omega))))
          go_roundw
          case rel => exact ⟨e2, acc ++ [y], q2, d2, by rw [List.length_append, List.length_singleton]; omega, rfl, hoat, ⟨by have h9 := HI6.out; rw [List.length_append, List.length_singleton] at h9; exact h9⟩, HR6, HT6, HX2⟩
          case measure => simp [lenV]; omega
        · have hne : (e == 0) = false := beq_eq_false_iff_ne.mpr he
          have HX2 : Aside0 (X = (acc, e, q)) := ⟨by
            have := HX.out
            cases d with
            | zero => exact this.symm
            | succ d => unfold valsR at this; rw [if_neg he] at this; exact this.symm⟩
          clear HX he
          go_wp2
          ((try simp only [Exit.inBlock, Exit.then]); refine bodyPost_ret (results_tmp4 rfl _ _ _) rfl ?_)
          rw [HPR2.out, HX2.out]
          simp only [hne]
          exact ⟨_, rfl, by rw [HC.out]; exact HI.out, HR.out, HT.out⟩
      · have hd0 : d = 0 := by omega
        subst hd0
        have HX2 : Aside0 (X = (acc, e, q)) := ⟨HX.out.symm⟩
        have i2 : ¬ (acc.length : Int) < (n : Int) := by omega
        clear HX
        cases hee : e == 0 with
        | true =>
          go_wp2
          ((try simp only [Exit.inBlock, Exit.then]); refine bodyPost_ret (results_tmp4 rfl _ _ _) rfl ?_)
          rw [HPR2.out, HX2.out]
          simp only [hee]
          exact ⟨_, rfl, by rw [HC.out]; exact HI.out, HR.out, HT.out⟩
        | false =>
          go_wp2
          ((try simp only [Exit.inBlock, Exit.then]); refine bodyPost_ret (results_tmp4 rfl _ _ _) rfl ?_)
          rw [HPR2.out, HX2.out]
          simp only [hee]
          exact ⟨_, rfl, by rw [HC.out]; exact HI.out, HR.out, HT.out⟩
end Go.Proofs.Ytfhekkoibmlmpaa.Hand

/- Contracts of layer 8, proved by hand: partition (parameters of 5 bits). -/
namespace Go.Proofs.Ytfhekkoibmlmpaa.Hand
open Go.RowKit Go.Proofs.Ytfhekkoibmlmpaa.Q Go.Proofs.YtfhekkoibmlmpaaW.PrintWords Go.Proofs.YtfhekkoibmlmpaaW.PrintLast Go.Proofs.YtfhekkoibmlmpaaW.PrintMore
set_option linter.unusedVariables false
set_option linter.unusedSimpArgs false
attribute [local go_sem] max2_int min2_int max_two min_two

set_option maxHeartbeats 16000000 in
set_option maxRecDepth 100000 in
theorem partition_any5 (s : ByteArray) (hs : s.size ≤ 281474976710656) (p : Nat) (hp : p ≤ 8 * s.size) (n : Nat) (hn : n ≤ 65535) (B g : Nat) (hB : B ≤ g) (w : World) (hR : RAt w g s p) :
    Calls Try.prog 42 #[.pointer (some ⟨g, 0, none⟩), .int .i64 n, .int .i64 5] w fun e w' => ∃ v, e = .returned (.tuple #[v, .int .i64 (partR s p n 5).2.1, .int .i64 (partR s p n 5).2.2.1, .bool ((partR s p n 5).2.2.2.1 == 0)]) ∧
      IntsAt w' w.heap.size v (partR s p n 5).1 ∧ RAt w' g s (partR s p n 5).2.2.2.2 ∧ Turned B g w w' := by
  have hup := Try.underlying45
  have HG := Aside0.mk (Get_any s hs p hp 5 B g hB w hR)
  have hHD : headR s p 5 = if (getR s p (5 : Int)).2.1 = 0 ∧ (getR s p (5 : Int)).1 = 31 then (0, ((getR s (getR s p (5 : Int)).2.2 5).1 : Int), (getR s (getR s p (5 : Int)).2.2 5).2.1, (getR s (getR s p (5 : Int)).2.2 5).2.2)
    else (((getR s p (5 : Int)).1 : Int), -1, (getR s p (5 : Int)).2.1, (getR s p (5 : Int)).2.2) := rfl
  have HHD := Aside0.mk hHD
  have hlt : (getR s p (5 : Int)).1 < 31 + 1 := getR_small s p 5
  have hat := getR_at s p 5 hp
  have HPR : Aside0 (partR s p n 5 = ((valsR s (headR s p 5).1 (headR s p 5).2.1 n [] (headR s p 5).2.2.1 (headR s p 5).2.2.2).1, (headR s p 5).1, (headR s p 5).2.1, (valsR s (headR s p 5).1 (headR s p 5).2.1 n [] (headR s p 5).2.2.1 (headR s p 5).2.2.2).2)) := ⟨rfl⟩
  have hgl := hR.lt
  have HS := Aside0.mk hs
  have HGE : Aside0 (∀ (q : Nat) (W : World), q ≤ 8 * s.size → RAt W g s q → Calls Try.prog 41 #[.pointer (some ⟨g, 0, none⟩), .int .i64 5] W fun e w' => e = .returned (.tuple #[.int .u64 (getR s q 5).1, .int .i64 (getR s q 5).2.1]) ∧ RAt w' g s (getR s q 5).2.2 ∧ Turned B g W w') := ⟨fun q W hq h => Get_any s hs q hq 5 B g hB W h⟩
  have HRI : Aside0 (∀ (k : Int) (q : Nat) (W : World), q ≤ 8 * s.size → RAt W g s q → Calls Try.prog 57 #[.pointer (some ⟨g, 0, none⟩), .int .i64 k] W fun e w' => e = .returned (.tuple #[.int .i64 (riceR s q k).1, .int .i64 (riceR s q k).2.1]) ∧ RAt w' g s (riceR s q k).2.2 ∧ Turned B g W w') := ⟨fun k q W hq h => RiceR_any s hs q hq k B g hB W h⟩
  have HSI : Aside0 (∀ (k : Int) (q : Nat) (W : World), q ≤ 8 * s.size → RAt W g s q → Calls Try.prog 58 #[.pointer (some ⟨g, 0, none⟩), .int .i64 k] W fun e w' => e = .returned (.tuple #[.int .i64 (signedR s q k).1, .int .i64 (signedR s q k).2.1]) ∧ RAt w' g s (signedR s q k).2.2 ∧ Turned B g W w') := ⟨fun k q W hq h => SignedR_any s hs q hq k B g hB W h⟩
  clear hHD hs hR
  generalize partR s p n 5 = PR at HPR ⊢
  generalize headR s p 5 = hd at HPR HHD
  generalize getR s p (5 : Int) = gr at HG HHD hlt hat
  obtain ⟨a, ea, q⟩ := gr
  simp only at HG HHD hlt hat
  by_cases hea : ea = 0
  · subst hea
    by_cases ha : a = 31
    · subst ha
      have HH2 := Aside0.mk (HHD.out.trans (if_pos ⟨rfl, rfl⟩))
      clear HHD
      go_enter Try.func42, Try.ntmps42
      go_wp2_with fail
      with_reducible refine HG.out.mono ?_
      rintro e w1 ⟨rfl, hr1, ht1⟩
      have HR1 := Aside0.mk hr1
      have HT1 := Aside0.mk ht1
      clear hr1 ht1 HG
      have HQ := Aside0.mk (HGE.out q w1 hat HR1.out)
      have hat2 := getR_at s q 5 hat
      have hl5 : (getR s q 5).1 < 32 := getR_small s q 5
      clear HGE
      generalize getR s q 5 = gr at HQ HH2 hat2 hl5
      obtain ⟨a2, e2, q2⟩ := gr
      simp only at HQ HH2 hat2 hl5
      go_wp2_with fail
      with_reducible refine HQ.out.mono ?_
      rintro e w2 ⟨rfl, hr2, ht2⟩
      have HR2 := Aside0.mk hr2
      have HT2 := Aside0.mk (HT1.out.trans ht2)
      clear hr2 ht2 HQ HR1 HT1
      have HPR2 : Aside0 (PR = ((valsR s 0 (a2 : Int) n [] e2 q2).1, 0, (a2 : Int), (valsR s 0 (a2 : Int) n [] e2 q2).2)) := ⟨by rw [HPR.out, HH2.out]⟩
      clear HPR HH2
      have hsz1 := HT2.out.kept.1
      obtain ⟨w3, hmk, hi3, hb3⟩ := make_ints w2 w.heap.size n (by omega) hsz1
      have HI3 := Aside0.mk hi3
      have HR3 := Aside0.mk (HR2.out.below hb3)
      have hg3 := HR2.out.lt
      have HT3 := Aside0.mk (HT2.out.new hb3 (by omega))
      obtain ⟨X, hX⟩ : ∃ X, valsR s 0 (a2 : Int) n [] e2 q2 = X := ⟨_, rfl⟩
      rw [hX] at HPR2
      have HX := Aside0.mk hX
      obtain ⟨C, hC⟩ : ∃ C, w.heap.size = C := ⟨_, rfl⟩
      have HC := Aside0.mk hC
      rw [hC] at HI3
      clear hX hi3 hb3 HR2 HT2 hC hsz1 hg3
      go_wp2
      go_loopw [11, 14] (fun ev lv wr => ∃ (e : Int) (acc : List Int) (q : Nat) (d : Nat), acc.length + d = n ∧ ev = .int .i64 e ∧ q ≤ 8 * s.size ∧ Aside0 (IntsAt wr C lv acc) ∧ Aside0 (RAt wr g s q) ∧ Aside0 (Turned B g w wr) ∧ Aside0 (valsR s 0 (a2 : Int) d acc e q = X)) (fun _ lv _ => n - lenV lv)
      case atStart => exact ⟨e2, [], q2, n, by simp, rfl, hat2, HI3, HR3, HT3, HX⟩
      case round =>
        clear HI3 HR3 HT3 HX hmk
        obtain ⟨e, acc, q, d, hd, rfl, hq, HI, HR, HT, HX⟩ := hrel
        obtain ⟨A1, c1, rfl, hc1, _⟩ := HI.out.C
        have hal : acc.length ≤ 65535 := by omega
        by_cases hlt9 : acc.length < n
        · have i1 : (acc.length : Int) < (n : Int) := by omega
          by_cases he : e = 0
          · subst he
            obtain ⟨d2, rfl⟩ : ∃ d2, d = d2 + 1 := ⟨d - 1, by omega⟩
            have HX2 : Aside0 (valsR s 0 (a2 : Int) d2 (acc ++ [(oneR s 0 (a2 : Int) q).1]) (oneR s 0 (a2 : Int) q).2.1 (oneR s 0 (a2 : Int) q).2.2 = X) := ⟨by have := HX.out; unfold valsR at this; rw [if_pos rfl] at this; exact this⟩
            have hoat := oneR_at s 0 (a2 : Int) q hq
            have hg3 := HR.out.lt
            have hBw : B ≤ wr.heap.size := by omega
            clear HX
            by_cases hx0 : 0 < (a2 : Int)
            · have ho : oneR s 0 (a2 : Int) q = signedR s q (a2 : Int) := by unfold oneR; rw [if_neg (by omega), if_pos hx0]
              rw [ho] at HX2 hoat
              have HQ := Aside0.mk (HSI.out (a2 : Int) q wr hq HR.out)
              clear ho
              generalize signedR s q (a2 : Int) = gr at HQ HX2 hoat
              obtain ⟨y, e2, q2⟩ := gr
              simp only at HQ HX2 hoat
              go_wp2_with fail
              with_reducible refine HQ.out.mono ?_
              rintro e w5 ⟨rfl, hr5, ht5⟩
              have HI5 := Aside0.mk (HI.out.reader HR.out ht5)
              have HR5 := Aside0.mk hr5
              have HT5 := Aside0.mk (HT.out.trans ht5)
              have hB5 : C ≤ w5.heap.size := by rw [← HC.out]; exact HT5.out.kept.1
              clear hr5 ht5 HI HR HT HQ
              go_wp2_with (at_builtin; (with_reducible refine app_ints (w0 := w5) (B := C) (v := .slice A1 acc.length c1) (xs := acc) (.tmp 67) (.tmp 69) y ?_ ?_ ?_ ?_ ?_ ?_ ?_ ?_ ?_); rfl; rfl; rfl; rfl; exact HI5.out; exact Below.refl _ _; exact hB5; omega; intro v1 w6 HI6 HB6 HG6 HO6; obtain ⟨A2, c2, e9, hc2, _⟩ := HI6.out.C; subst e9)
              have HR6 := Aside0.mk (HR5.out.list HI5.out HG6.out)
              have HT6 := Aside0.mk (HT5.out.list HI5.out (by rw [HC.out]; exact Nat.le_refl _) HG6.out (HT5.out.below.trans (pw_below_grown (Below.refl _ _) _ (by have := HR5.out.lt; omega) HG6.out (fun k hk => by have := HI5.out.ge k hk; have := HC.out; have := hgl; omega))))
              go_roundw
              case rel => exact ⟨e2, acc ++ [y], q2, d2, by rw [List.length_append, List.length_singleton]; omega, rfl, hoat, ⟨by have h9 := HI6.out; rw [List.length_append, List.length_singleton] at h9; exact h9⟩, HR6, HT6, HX2⟩
              case measure => simp [lenV]; omega
            · have ho : oneR s 0 (a2 : Int) q = (0, 0, q) := by unfold oneR; rw [if_neg (by omega), if_neg hx0]
              rw [ho] at HX2
              have hB5 : C ≤ wr.heap.size := by rw [← HC.out]; exact HT.out.kept.1
              clear ho hoat
              go_wp2_with (at_builtin; (with_reducible refine app_ints (w0 := wr) (B := C) (v := .slice A1 acc.length c1) (xs := acc) (.tmp 67) (.tmp 69) 0 ?_ ?_ ?_ ?_ ?_ ?_ ?_ ?_ ?_); rfl; rfl; rfl; rfl; exact HI.out; exact Below.refl _ _; exact hB5; omega; intro v1 w6 HI6 HB6 HG6 HO6; obtain ⟨A2, c2, e9, hc2, _⟩ := HI6.out.C; subst e9)
              have HR6 := Aside0.mk (HR.out.list HI.out HG6.out)
              have HT6 := Aside0.mk (HT.out.list HI.out (by rw [HC.out]; exact Nat.le_refl _) HG6.out (HT.out.below.trans (pw_below_grown (Below.refl _ _) _ (by have := HR.out.lt; omega) HG6.out (fun k hk => by have := HI.out.ge k hk; have := HC.out; have := hgl; omega))))
              go_roundw
              case rel => exact ⟨0, acc ++ [0], q, d2, by rw [List.length_append, List.length_singleton]; omega, rfl, hq, ⟨by have h9 := HI6.out; rw [List.length_append, List.length_singleton] at h9; exact h9⟩, HR6, HT6, HX2⟩
              case measure => simp [lenV]; omega
          · have hne : (e == 0) = false := beq_eq_false_iff_ne.mpr he
            have HX2 : Aside0 (X = (acc, e, q)) := ⟨by
              have := HX.out
              cases d with
              | zero => exact this.symm
              | succ d => unfold valsR at this; rw [if_neg he] at this; exact this.symm⟩
            clear HX he
            go_wp2
            ((try simp only [Exit.inBlock, Exit.then]); refine bodyPost_ret (results_tmp4 rfl _ _ _) rfl ?_)
            rw [HPR2.out, HX2.out]
            simp only [hne]
            exact ⟨_, rfl, by rw [HC.out]; exact HI.out, HR.out, HT.out⟩
        · have hd0 : d = 0 := by omega
          subst hd0
          have HX2 : Aside0 (X = (acc, e, q)) := ⟨HX.out.symm⟩
          have i2 : ¬ (acc.length : Int) < (n : Int) := by omega
          clear HX
          cases hee : e == 0 with
          | true =>
            go_wp2
            ((try simp only [Exit.inBlock, Exit.then]); refine bodyPost_ret (results_tmp4 rfl _ _ _) rfl ?_)
            rw [HPR2.out, HX2.out]
            simp only [hee]
            exact ⟨_, rfl, by rw [HC.out]; exact HI.out, HR.out, HT.out⟩
          | false =>
            go_wp2
            ((try simp only [Exit.inBlock, Exit.then]); refine bodyPost_ret (results_tmp4 rfl _ _ _) rfl ?_)
            rw [HPR2.out, HX2.out]
            simp only [hee]
            exact ⟨_, rfl, by rw [HC.out]; exact HI.out, HR.out, HT.out⟩
    · have hne : ((a : Int) == 31) = false := beq_eq_false_iff_ne.mpr (by omega)
      have HH2 := Aside0.mk (HHD.out.trans (if_neg (fun h => ha h.2)))
      have e20 : (0 : Int) = 0 := rfl
      clear HHD ha e20
      go_enter Try.func42, Try.ntmps42
      go_wp2_with fail
      with_reducible refine HG.out.mono ?_
      rintro e w2 ⟨rfl, hr2, ht2⟩
      have HR2 := Aside0.mk hr2
      have HT2 := Aside0.mk ht2
      clear hr2 ht2 HG HGE
      have HPR2 : Aside0 (PR = ((valsR s (a : Int) (-1) n [] 0 q).1, (a : Int), (-1), (valsR s (a : Int) (-1) n [] 0 q).2)) := ⟨by rw [HPR.out, HH2.out]⟩
      clear HPR HH2
      have hsz1 := HT2.out.kept.1
      obtain ⟨w3, hmk, hi3, hb3⟩ := make_ints w2 w.heap.size n (by omega) hsz1
      have HI3 := Aside0.mk hi3
      have HR3 := Aside0.mk (HR2.out.below hb3)
      have hg3 := HR2.out.lt
      have HT3 := Aside0.mk (HT2.out.new hb3 (by omega))
      obtain ⟨X, hX⟩ : ∃ X, valsR s (a : Int) (-1) n [] 0 q = X := ⟨_, rfl⟩
      rw [hX] at HPR2
      have HX := Aside0.mk hX
      obtain ⟨C, hC⟩ : ∃ C, w.heap.size = C := ⟨_, rfl⟩
      have HC := Aside0.mk hC
      rw [hC] at HI3
      clear hX hi3 hb3 HR2 HT2 hC hsz1 hg3
      go_wp2
      go_loopw [11, 14] (fun ev lv wr => ∃ (e : Int) (acc : List Int) (q : Nat) (d : Nat), acc.length + d = n ∧ ev = .int .i64 e ∧ q ≤ 8 * s.size ∧ Aside0 (IntsAt wr C lv acc) ∧ Aside0 (RAt wr g s q) ∧ Aside0 (Turned B g w wr) ∧ Aside0 (valsR s (a : Int) (-1) d acc e q = X)) (fun _ lv _ => n - lenV lv)
      case atStart => exact ⟨0, [], q, n, by simp, rfl, hat, HI3, HR3, HT3, HX⟩
      case round =>
        clear HI3 HR3 HT3 HX hmk
        obtain ⟨e, acc, q, d, hd, rfl, hq, HI, HR, HT, HX⟩ := hrel
        obtain ⟨A1, c1, rfl, hc1, _⟩ := HI.out.C
        have hal : acc.length ≤ 65535 := by omega
        by_cases hlt9 : acc.length < n
        · have i1 : (acc.length : Int) < (n : Int) := by omega
          by_cases he : e = 0
          · subst he
            obtain ⟨d2, rfl⟩ : ∃ d2, d = d2 + 1 := ⟨d - 1, by omega⟩
            have HX2 : Aside0 (valsR s (a : Int) (-1) d2 (acc ++ [(oneR s (a : Int) (-1) q).1]) (oneR s (a : Int) (-1) q).2.1 (oneR s (a : Int) (-1) q).2.2 = X) := ⟨by have := HX.out; unfold valsR at this; rw [if_pos rfl] at this; exact this⟩
            have hoat := oneR_at s (a : Int) (-1) q hq
            have hg3 := HR.out.lt
            have hBw : B ≤ wr.heap.size := by omega
            clear HX
            have ho : oneR s (a : Int) (-1) q = riceR s q (a : Int) := by unfold oneR; rw [if_pos (by omega)]
            rw [ho] at HX2 hoat
            have HQ := Aside0.mk (HRI.out (a : Int) q wr hq HR.out)
            clear ho
            generalize riceR s q (a : Int) = gr at HQ HX2 hoat
            obtain ⟨y, e2, q2⟩ := gr
            simp only at HQ HX2 hoat
            go_wp2_with fail
            with_reducible refine HQ.out.mono ?_
            rintro e w5 ⟨rfl, hr5, ht5⟩
            have HI5 := Aside0.mk (HI.out.reader HR.out ht5)
            have HR5 := Aside0.mk hr5
            have HT5 := Aside0.mk (HT.out.trans ht5)
            have hB5 : C ≤ w5.heap.size := by rw [← HC.out]; exact HT5.out.kept.1
            clear hr5 ht5 HI HR HT HQ
            go_wp2_with (at_builtin; (with_reducible refine app_ints (w0 := w5) (B := C) (v := .slice A1 acc.length c1) (xs := acc) (.tmp 67) (.tmp 69) y ?_ ?_ ?_ ?_ ?_ ?_ ?_ ?_ ?_); rfl; rfl; rfl; rfl; exact HI5.out; exact Below.refl _ _; exact hB5; omega; intro v1 w6 HI6 HB6 HG6 HO6; obtain ⟨A2, c2, e9, hc2, _⟩ := HI6.out.C; subst e9)
            have HR6 := Aside0.mk (HR5.out.list HI5.out HG6.out)
            have HT6 := Aside0.mk (HT5.out.list HI5.out (by rw [HC.out]; exact Nat.le_refl _) HG6.out (HT5.out.below.trans (pw_below_grown (Below.refl _ _) _ (by have := HR5.out.lt; omega) HG6.out (fun k hk => by have := HI5.out.ge k hk; have := HC.out; have := hgl; omega))))
            go_roundw
            case rel => exact ⟨e2, acc ++ [y], q2, d2, by rw [List.length_append, List.length_singleton]; omega, rfl, hoat, ⟨by have h9 := HI6.out; rw [List.length_append, List.length_singleton] at h9; exact h9⟩, HR6, HT6, HX2⟩
            case measure => simp [lenV]; omega
          · have hne : (e == 0) = false := beq_eq_false_iff_ne.mpr he
            have HX2 : Aside0 (X = (acc, e, q)) := ⟨by
              have := HX.out
              cases d with
              | zero => exact this.symm
              | succ d => unfold valsR at this; rw [if_neg he] at this; exact this.symm⟩
            clear HX he
            go_wp2
            ((try simp only [Exit.inBlock, Exit.then]); refine bodyPost_ret (results_tmp4 rfl _ _ _) rfl ?_)
            rw [HPR2.out, HX2.out]
            simp only [hne]
            exact ⟨_, rfl, by rw [HC.out]; exact HI.out, HR.out, HT.out⟩
        · have hd0 : d = 0 := by omega
          subst hd0
          have HX2 : Aside0 (X = (acc, e, q)) := ⟨HX.out.symm⟩
          have i2 : ¬ (acc.length : Int) < (n : Int) := by omega
          clear HX
          cases hee : e == 0 with
          | true =>
            go_wp2
            ((try simp only [Exit.inBlock, Exit.then]); refine bodyPost_ret (results_tmp4 rfl _ _ _) rfl ?_)
            rw [HPR2.out, HX2.out]
            simp only [hee]
            exact ⟨_, rfl, by rw [HC.out]; exact HI.out, HR.out, HT.out⟩
          | false =>
            go_wp2
            ((try simp only [Exit.inBlock, Exit.then]); refine bodyPost_ret (results_tmp4 rfl _ _ _) rfl ?_)
            rw [HPR2.out, HX2.out]
            simp only [hee]
            exact ⟨_, rfl, by rw [HC.out]; exact HI.out, HR.out, HT.out⟩
  · have hne : (ea == 0) = false := beq_eq_false_iff_ne.mpr hea
    have HH2 := Aside0.mk (HHD.out.trans (if_neg (fun h => hea h.1)))
    clear HHD hea
    go_enter Try.func42, Try.ntmps42
    go_wp2_with fail
    with_reducible refine HG.out.mono ?_
    rintro e w2 ⟨rfl, hr2, ht2⟩
    have HR2 := Aside0.mk hr2
    have HT2 := Aside0.mk ht2
    clear hr2 ht2 HG HGE
    have HPR2 : Aside0 (PR = ((valsR s (a : Int) (-1) n [] ea q).1, (a : Int), (-1), (valsR s (a : Int) (-1) n [] ea q).2)) := ⟨by rw [HPR.out, HH2.out]⟩
    clear HPR HH2
    have hsz1 := HT2.out.kept.1
    obtain ⟨w3, hmk, hi3, hb3⟩ := make_ints w2 w.heap.size n (by omega) hsz1
    have HI3 := Aside0.mk hi3
    have HR3 := Aside0.mk (HR2.out.below hb3)
    have hg3 := HR2.out.lt
    have HT3 := Aside0.mk (HT2.out.new hb3 (by omega))
    obtain ⟨X, hX⟩ : ∃ X, valsR s (a : Int) (-1) n [] ea q = X := ⟨_, rfl⟩
    rw [hX] at HPR2
    have HX := Aside0.mk hX
    obtain ⟨C, hC⟩ : ∃ C, w.heap.size = C := ⟨_, rfl⟩
    have HC := Aside0.mk hC
    rw [hC] at HI3
    clear hX hi3 hb3 HR2 HT2 hC hsz1 hg3
    go_wp2
    go_loopw [11, 14] (fun ev lv wr => ∃ (e : Int) (acc : List Int) (q : Nat) (d : Nat), acc.length + d = n ∧ ev = .int .i64 e ∧ q ≤ 8 * s.size ∧ Aside0 (IntsAt wr C lv acc) ∧ Aside0 (RAt wr g s q) ∧ Aside0 (Turned B g w wr) ∧ Aside0 (valsR s (a : Int) (-1) d acc e q = X)) (fun _ lv _ => n - lenV lv)
    case atStart => exact ⟨ea, [], q, n, by simp, rfl, hat, HI3, HR3, HT3, HX⟩
    case round =>
      clear HI3 HR3 HT3 HX hmk
      obtain ⟨e, acc, q, d, hd, rfl, hq, HI, HR, HT, HX⟩ := hrel
      obtain ⟨A1, c1, rfl, hc1, _⟩ := HI.out.C
      have hal : acc.length ≤ 65535 := by omega
      by_cases hlt9 : acc.length < n
      · have i1 : (acc.length : Int) < (n : Int) := by omega
        by_cases he : e = 0
        · subst he
          obtain ⟨d2, rfl⟩ : ∃ d2, d = d2 + 1 := ⟨d - 1, by omega⟩
          have HX2 : Aside0 (valsR s (a : Int) (-1) d2 (acc ++ [(oneR s (a : Int) (-1) q).1]) (oneR s (a : Int) (-1) q).2.1 (oneR s (a : Int) (-1) q).2.2 = X) := ⟨by have := HX.out; unfold valsR at this; rw [if_pos rfl] at this; exact this⟩
          have hoat := oneR_at s (a : Int) (-1) q hq
          have hg3 := HR.out.lt
          have hBw : B ≤ wr.heap.size := by omega
          clear HX
          have ho : oneR s (a : Int) (-1) q = riceR s q (a : Int) := by unfold oneR; rw [if_pos (by omega)]
          rw [ho] at HX2 hoat
          have HQ := Aside0.mk (HRI.out (a : Int) q wr hq HR.out)
          clear ho
          generalize riceR s q (a : Int) = gr at HQ HX2 hoat
          obtain ⟨y, e2, q2⟩ := gr
          simp only at HQ HX2 hoat
          go_wp2_with fail
          with_reducible refine HQ.out.mono ?_
          rintro e w5 ⟨rfl, hr5, ht5⟩
          have HI5 := Aside0.mk (HI.out.reader HR.out ht5)
          have HR5 := Aside0.mk hr5
          have HT5 := Aside0.mk (HT.out.trans ht5)
          have hB5 : C ≤ w5.heap.size := by rw [← HC.out]; exact HT5.out.kept.1
          clear hr5 ht5 HI HR HT HQ
          go_wp2_with (at_builtin; (with_reducible refine app_ints (w0 := w5) (B := C) (v := .slice A1 acc.length c1) (xs := acc) (.tmp 67) (.tmp 69) y ?_ ?_ ?_ ?_ ?_ ?_ ?_ ?_ ?_); rfl; rfl; rfl; rfl; exact HI5.out; exact Below.refl _ _; exact hB5; omega; intro v1 w6 HI6 HB6 HG6 HO6; obtain ⟨A2, c2, e9, hc2, _⟩ := HI6.out.C; subst e9)
          have HR6 := Aside0.mk (HR5.out.list HI5.out HG6.out)
          have HT6 := Aside0.mk (HT5.out.list HI5.out (by rw [HC.out]; exact Nat.le_refl _) HG6.out (HT5.out.below.trans (pw_below_grown (Below.refl _ _) _ (by have := HR5.out.lt; omega) HG6.out (fun k hk => by have := HI5.out.ge k hk; have := HC.out; have := hgl; omega))))
          go_roundw
          case rel => exact ⟨e2, acc ++ [y], q2, d2, by rw [List.length_append, List.length_singleton]; omega, rfl, hoat, ⟨by have h9 := HI6.out; rw [List.length_append, List.length_singleton] at h9; exact h9⟩, HR6, HT6, HX2⟩
          case measure => simp [lenV]; omega
        · have hne : (e == 0) = false := beq_eq_false_iff_ne.mpr he
          have HX2 : Aside0 (X = (acc, e, q)) := ⟨by
            have := HX.out
            cases d with
            | zero => exact this.symm
            | succ d => unfold valsR at this; rw [if_neg he] at this; exact this.symm⟩
          clear HX he
          go_wp2
          ((try simp only [Exit.inBlock, Exit.then]); refine bodyPost_ret (results_tmp4 rfl _ _ _) rfl ?_)
          rw [HPR2.out, HX2.out]
          simp only [hne]
          exact ⟨_, rfl, by rw [HC.out]; exact HI.out, HR.out, HT.out⟩
      · have hd0 : d = 0 := by omega
        subst hd0
        have HX2 : Aside0 (X = (acc, e, q)) := ⟨HX.out.symm⟩
        have i2 : ¬ (acc.length : Int) < (n : Int) := by omega
        clear HX
        cases hee : e == 0 with
        | true =>
          go_wp2
          ((try simp only [Exit.inBlock, Exit.then]); refine bodyPost_ret (results_tmp4 rfl _ _ _) rfl ?_)
          rw [HPR2.out, HX2.out]
          simp only [hee]
          exact ⟨_, rfl, by rw [HC.out]; exact HI.out, HR.out, HT.out⟩
        | false =>
          go_wp2
          ((try simp only [Exit.inBlock, Exit.then]); refine bodyPost_ret (results_tmp4 rfl _ _ _) rfl ?_)
          rw [HPR2.out, HX2.out]
          simp only [hee]
          exact ⟨_, rfl, by rw [HC.out]; exact HI.out, HR.out, HT.out⟩
end Go.Proofs.Ytfhekkoibmlmpaa.Hand

/- Two rows in a struct's block, each grown by a number: what a region that draws its order does. -/
namespace Go.Proofs.Ytfhekkoibmlmpaa.Hand
open Go.RowKit Go.Proofs.YtfhekkoibmlmpaaW.PrintWords Go.Proofs.YtfhekkoibmlmpaaW.PrintLast Go.Proofs.YtfhekkoibmlmpaaW.PrintMore
set_option linter.unusedVariables false
set_option linter.unusedSimpArgs false

/-- Two rows that are none of each other. -/
def Dis (u v : Value) : Prop := ∀ k, u.ownBlock = some k → v.ownBlock ≠ some k
theorem Dis.symm {u v : Value} (h : Dis u v) : Dis v u := fun k h1 h2 => h k h2 h1
theorem Dis.nil_left (v : Value) : Dis (.slice none 0 0) v := fun k h => by simp [Value.ownBlock] at h
/-- The first of two rows has grown. -/
theorem Dis.grown {W : World} {C : Nat} {u u1 v : Value} {xs : List Int} (h : Dis u v) (hv : IntsAt W C v xs) (ho : u1.ownBlock = u.ownBlock ∨ ∃ b, u1.ownBlock = some b ∧ W.heap.size ≤ b) : Dis u1 v := by
  intro k h1 h2
  rcases ho with e | ⟨b, e, hb⟩
  · exact h k (e ▸ h1) h2
  · rw [e] at h1
    injection h1 with h1
    subst h1
    have := hv.lt _ h2
    omega
theorem IntsAt.grown {W w1 : World} {C : Nat} {u v : Value} {xs : List Int} (h : IntsAt W C v xs) (hd : Dis u v) (hg : W.grownBy w1 u.ownBlock) : IntsAt w1 C v xs :=
  .of (Kd.R_grown h hg (fun k hk e => hd k e.symm hk))
theorem IntsAt.shape {W : World} {C : Nat} {v : Value} {xs : List Int} (h : IntsAt W C v xs) : ∃ A n c, v = .slice A n c := by
  obtain ⟨A, c, e, _⟩ := h.C
  exact ⟨A, _, c, e⟩
/-- From W0 on: block b (no row of numbers), whose cells are these; the rows vP, vE, that were vP0, vE0. -/
structure TwoRows (C b t : Nat) (W0 : World) (vP0 vE0 : Value) (W : World) (cells : Array Value) (vP vE : Value) (ps es : List Int) : Prop where
  box : W.heap[b]? = some (.cells cells t (0, 0))
  tt : t ≠ 3
  P : IntsAt W C vP ps
  E : IntsAt W C vE es
  dis : Dis vP vE
  kept : Kept W0 W (fun k => k = b ∨ vP0.ownBlock = some k ∨ vE0.ownBlock = some k)
  below : Below C W0 W
  hC : C ≤ b
  oP : vP.ownBlock = vP0.ownBlock ∨ ∃ k, vP.ownBlock = some k ∧ W0.heap.size ≤ k
  oE : vE.ownBlock = vE0.ownBlock ∨ ∃ k, vE.ownBlock = some k ∧ W0.heap.size ≤ k
section
variable {C b t : Nat} {W0 W w1 : World} {vP0 vE0 vP vE v1 : Value} {cells : Array Value} {ps es xs : List Int}
theorem TwoRows.start (hb : W.heap[b]? = some (.cells cells t (0, 0))) (ht : t ≠ 3) (hP : IntsAt W C vP ps) (hE : IntsAt W C vE es) (hd : Dis vP vE) (hC : C ≤ b) : TwoRows C b t W vP vE W cells vP vE ps es :=
  ⟨hb, ht, hP, hE, hd, Kept.refl _ _, Below.refl _ _, hC, .inl rfl, .inl rfl⟩
theorem TwoRows.le (h : TwoRows C b t W0 vP0 vE0 W cells vP vE ps es) : C ≤ W.heap.size := by have := blk_lt h.box; have := h.hC; omega
theorem TwoRows.new (h : TwoRows C b t W0 vP0 vE0 W cells vP vE ps es) (hb : Below W.heap.size W w1) : TwoRows C b t W0 vP0 vE0 w1 cells vP vE ps es :=
  ⟨blk_below h.box hb, h.tt, h.P.below hb, h.E.below hb, h.dis, h.kept.below hb, h.below.trans (hb.mono h.le), h.hC, h.oP, h.oE⟩
theorem TwoRows.growP (h : TwoRows C b t W0 vP0 vE0 W cells vP vE ps es) (hr : IntsAt w1 C v1 xs) (hg : W.grownBy w1 vP.ownBlock) (ho : v1.ownBlock = vP.ownBlock ∨ ∃ k, v1.ownBlock = some k ∧ W.heap.size ≤ k) : TwoRows C b t W0 vP0 vE0 w1 cells v1 vE xs es :=
  ⟨h.P.other h.box h.tt hg, h.tt, hr, h.E.grown h.dis hg, h.dis.grown h.E ho,
    h.kept.of_grown hg (fun k hk => by
      rcases h.oP with e | ⟨k2, e, h2⟩
      · exact .inl (.inr (.inl (e ▸ hk)))
      · rw [hk] at e; injection e with e; subst e; exact .inr h2),
    h.below.trans (pw_below_grown (Below.refl _ _) _ h.le hg (fun k hk => h.P.ge k hk)), h.hC,
    by
      rcases ho with e | ⟨k, e, h2⟩
      · rcases h.oP with e2 | ⟨k2, e2, h3⟩
        · exact .inl (e.trans e2)
        · exact .inr ⟨k2, e.trans e2, h3⟩
      · exact .inr ⟨k, e, Nat.le_trans h.kept.1 h2⟩, h.oE⟩
theorem TwoRows.swap (h : TwoRows C b t W0 vP0 vE0 W cells vP vE ps es) : TwoRows C b t W0 vE0 vP0 W cells vE vP es ps :=
  ⟨h.box, h.tt, h.E, h.P, h.dis.symm, h.kept.mono (fun k hk => hk.elim .inl (fun h => .inr h.symm)), h.below, h.hC, h.oE, h.oP⟩
theorem TwoRows.growE (h : TwoRows C b t W0 vP0 vE0 W cells vP vE ps es) (hr : IntsAt w1 C v1 xs) (hg : W.grownBy w1 vE.ownBlock) (ho : v1.ownBlock = vE.ownBlock ∨ ∃ k, v1.ownBlock = some k ∧ W.heap.size ≤ k) : TwoRows C b t W0 vP0 vE0 w1 cells vP v1 ps xs :=
  (h.swap.growP hr hg ho).swap
theorem TwoRows.put (h : TwoRows C b t W0 vP0 vE0 W cells vP vE ps es) (j : Nat) (u : Value) {cells2 : Array Value} (hc : cells.setIfInBounds j u = cells2) : TwoRows C b t W0 vP0 vE0 (W.setCell ⟨b, j, none⟩ u) cells2 vP vE ps es :=
  ⟨blk_put h.box j u hc, h.tt, h.P.set h.box h.tt j u, h.E.set h.box h.tt j u, h.dis, h.kept.setCell (p := ⟨b, j, none⟩) (.inl (.inl rfl)) u, h.below.setCell h.hC u, h.hC, h.oP, h.oE⟩
end
theorem lit_kept {W w1 : World} {k : Nat} {v : Value} {o : Obj} (hb : W.heap[k]? = some o) (hd : ∀ j, v.ownBlock = some j → j ≠ k) (hg : W.grownBy w1 v.ownBlock) : w1.heap[k]? = some o :=
  (hg.block k (blk_lt hb) (fun e => hd _ e.symm rfl)).trans hb
/-- A block of one number, read as a list. -/
theorem lit_C {W : World} {b : Nat} {y : Int} (h : W.heap[b]? = some (.cells #[.int .i64 y] 3 (0, 0))) : Kd.C (Kd.int .i64) W (some ⟨b, 0, none⟩) [y].length [y] := by
  refine ⟨rfl, by simp, fun _ => ⟨_, rfl, fun j p hp => ?_⟩⟩
  have hj : j = 0 := by
    rcases j with _ | j
    · rfl
    · simp at hp
  subst hj
  have hp2 : y = p := by simpa using hp
  subst hp2
  refine ⟨[.int .i64 y], rfl, rfl, fun i u hu => ?_⟩
  have hi : i = 0 := by
    rcases i with _ | i
    · rfl
    · simp at hu
  subst hi
  have hu2 : Value.int .i64 y = u := by simpa using hu
  subst hu2
  simpa [Addr.add] using blk_cell h 0
section
variable {ops : Array Oper} {o : Oper} {a : Act} {Q : Exit → Act → World → Prop} {Kc : Act → World → Prop}
/-- A number appended to a row of one's own: a step of a region that draws. -/
theorem app_lit_step {W : World} {C b : Nat} (s x : Operand) {v : Value} {xs : List Int} (y : Int) (hw : Region.wanted o (yielded ops a.tmps) = true)
    (ho : o.op = .call { callee := .builtin .append, args := #[s, x], argTypes := #[22, 22] }) (hs : a.eval s = v) (hx : a.eval x = .slice (some ⟨b, 0, none⟩) 1 1)
    (HO : IntsAt W C v xs) (hb : W.heap[b]? = some (.cells #[.int .i64 y] 3 (0, 0))) (hC : C ≤ W.heap.size) (hl : xs.length ≤ 1000000)
    (h : ∀ v1 w1, IntsAt w1 C v1 (xs ++ [y]) → W.grownBy w1 v.ownBlock → (v1.ownBlock = v.ownBlock ∨ ∃ k, v1.ownBlock = some k ∧ W.heap.size ≤ k) → Kc (a.put o.dst v1) w1) :
    if Region.wanted o (yielded ops a.tmps) = true then Oper.wp Try.prog o a W Kc Q else Kc (a.put o.dst undef) W :=
  Kd.R_append_rows_step (Kd.int .i64) (w0 := W) C hw s x 22 3 (.int .i64 0) 8 ho Try.underlying22 infoI rfl (by decide) (by decide) v xs [y] (some ⟨b, 0, none⟩) [y].length 1 (fun _ => True) (fun _ => False) hs hx
    HO.all (lit_C hb) (fun _ _ hx => hx) (fun _ hk => hk.elim) (fun _ _ => trivial) (Below.refl _ _) hC (by simp; omega) (fun v1 w1 h1 h2 h3 h4 => h v1 w1 (.of h1) h3 h4)
/-- A whole struct stored: a step of a region that draws. -/
theorem store_row_step {W : World} (ty : TypeId) (x y : Operand) (hw : Region.wanted o (yielded ops a.tmps) = true) (ho : o.op = .store ty x y) (g : Nat) (cells : Array Value) (hx : a.eval x = .pointer (some ⟨g, 0, none⟩)) (hy : a.eval y = .agg cells)
    (t : TypeId) (old : Array Value) (hg : W.heap[g]? = some (.cells old t (0, 0))) (hi : (Try.prog.info? ty).map (·.size) = some cells.size) (hold : old.size = cells.size) (h1 : cells.all (·.oneCell') = true) (h : Kc (a.put o.dst undef) (W.setRow g cells)) :
    if Region.wanted o (yielded ops a.tmps) = true then Oper.wp Try.prog o a W Kc Q else Kc (a.put o.dst undef) W := by
  rw [if_pos hw]
  exact wp_store_row ty x y ho g cells hx hy t old hg hi hold h1 h
end
end Go.Proofs.Ytfhekkoibmlmpaa.Hand

/- Contracts of layer 8, proved by hand: Decode's words. -/
namespace Go.Proofs.Ytfhekkoibmlmpaa.Hand
open Go.RowKit Go.Proofs.Ytfhekkoibmlmpaa.Q Go.Proofs.YtfhekkoibmlmpaaW.PrintWords Go.Proofs.YtfhekkoibmlmpaaW.PrintLast Go.Proofs.YtfhekkoibmlmpaaW.PrintMore
set_option linter.unusedVariables false
set_option linter.unusedSimpArgs false

abbrev zRice : Array Value := #[.int .i64 0, .int .i64 0, .slice none 0 0, .slice none 0 0]
theorem rc_info (a b : Int) (P E : Value) : (Try.prog.info? 24).map (·.size) = some (#[.int .i64 a, .int .i64 b, P, E] : Array Value).size := (by kernel_rfl : (Try.prog.info? 24).map (·.size) = some 4)
theorem rc_one (a b : Int) (A1 A2 : Option Addr) (n1 c1 n2 c2 : Nat) : (#[.int .i64 a, .int .i64 b, .slice A1 n1 c1, .slice A2 n2 c2] : Array Value).all (·.oneCell') = true := by simp [Value.oneCell']
theorem results_tct {P : Program} {fn : Func} {p u v : Tmp} {ty : TypeId} (h : fn.results = #[.tmp v, .cell p ty, .tmp u]) (tmps : Array Value) (w : World) (g : Nat) (t : TypeId) (cs : Array Value) (fr : Nat × Nat) (d : TypeDesc)
    (hp : tmps.getD p undef = .pointer (some ⟨g, 0, none⟩)) (hg : w.heap[g]? = some (.cells cs t fr))
    (hu : P.underlying ty = some d) (hd : (match d with | .struct _ | .array _ _ => true | _ => false) = true) (hi : (P.info? ty).map (·.size) = some cs.size) :
    (results fn tmps).run P w = .ok (.tuple #[tmps.getD v undef, .agg cs, tmps.getD u undef]) w := by
  have hp' : tmps[p]?.getD undef = .pointer (some ⟨g, 0, none⟩) := by simpa using hp
  simp [results, h, hp', asAddr, run_loadVar_row w g t ty cs fr d hg hu hd hi, Result.andThen, Sem.run_pure]
theorem results_ct {P : Program} {fn : Func} {p u : Tmp} {ty : TypeId} (h : fn.results = #[.cell p ty, .tmp u]) (tmps : Array Value) (w : World) (g : Nat) (t : TypeId) (cs : Array Value) (fr : Nat × Nat) (d : TypeDesc)
    (hp : tmps.getD p undef = .pointer (some ⟨g, 0, none⟩)) (hg : w.heap[g]? = some (.cells cs t fr))
    (hu : P.underlying ty = some d) (hd : (match d with | .struct _ | .array _ _ => true | _ => false) = true) (hi : (P.info? ty).map (·.size) = some cs.size) :
    (results fn tmps).run P w = .ok (.tuple #[.agg cs, tmps.getD u undef]) w := by
  have hp' : tmps[p]?.getD undef = .pointer (some ⟨g, 0, none⟩) := by simpa using hp
  simp [results, h, hp', asAddr, run_loadVar_row w g t ty cs fr d hg hu hd hi, Result.andThen, Sem.run_pure]
structure DecSt (w : World) (B g b7 b13 : Nat) (s : ByteArray) (m O : Int) (wr : World) (q : Nat) (u vP vE : Value) (al ps es : List Int) : Prop where
  rd : RAt wr g s q
  tn : Turned B g w wr
  z7 : wr.heap[b7]? = some (.cells zRice 24 (0, 0))
  r13 : wr.heap[b13]? = some (.cells #[.int .i64 m, .int .i64 O, vP, vE] 24 (0, 0))
  U : IntsAt wr w.heap.size u al
  P : IntsAt wr w.heap.size vP ps
  E : IntsAt wr w.heap.size vE es
  d1 : Dis u vP
  d2 : Dis u vE
  d3 : Dis vP vE
section
variable {w : World} {B g b7 b13 : Nat} {s : ByteArray} {m O : Int} {wr w' : World} {q q' : Nat} {u vP vE : Value} {al ps es : List Int}
theorem DecSt.below (h : DecSt w B g b7 b13 s m O wr q u vP vE al ps es) (hB : B ≤ g) (hb : Below wr.heap.size wr w') : DecSt w B g b7 b13 s m O w' q u vP vE al ps es :=
  ⟨h.rd.below hb, h.tn.new hb (by have := h.rd.lt; omega), blk_below h.z7 hb, blk_below h.r13 hb, h.U.below hb, h.P.below hb, h.E.below hb, h.d1, h.d2, h.d3⟩
/-- The reader has gone on. -/
theorem DecSt.turn (h : DecSt w B g b7 b13 s m O wr q u vP vE al ps es) (hr : RAt w' g s q') (ht : Turned B g wr w') (h7 : b7 ≠ g) (h13 : b13 ≠ g) : DecSt w B g b7 b13 s m O w' q' u vP vE al ps es :=
  ⟨hr, h.tn.trans ht, blk_kept h.z7 ht.kept h7, blk_kept h.r13 ht.kept h13, h.U.reader h.rd ht, h.P.reader h.rd ht, h.E.reader h.rd ht, h.d1, h.d2, h.d3⟩
/-- All residuals' list has grown. -/
theorem DecSt.all (h : DecSt w B g b7 b13 s m O wr q u vP vE al ps es) (hB : B ≤ w.heap.size) {u1 : Value} {al1 : List Int} (hu : IntsAt w' w.heap.size u1 al1) (hg : wr.grownBy w' u.ownBlock) (ho : u1.ownBlock = u.ownBlock ∨ ∃ b, u1.ownBlock = some b ∧ wr.heap.size ≤ b) :
    DecSt w B g b7 b13 s m O w' q u1 vP vE al1 ps es :=
  ⟨h.rd.list h.U hg, h.tn.list h.U (Nat.le_refl _) hg (h.tn.below.trans (pw_below_grown (Below.refl _ _) _ (by have := h.tn.kept.1; omega) hg (fun k hk => by have := h.U.ge k hk; omega))), h.U.other h.z7 (by decide) hg, h.U.other h.r13 (by decide) hg, hu, h.P.grown h.d1 hg, h.E.grown h.d2 hg, h.d1.grown h.P ho, h.d2.grown h.E ho, h.d3⟩
/-- A row of the recipe's has grown: its list alone, not yet its cell. -/
theorem DecSt.blk (h : DecSt w B g b7 b13 s m O wr q u vP vE al ps es) {t : TypeId} {cs : Array Value} {k : Nat} (hb : wr.heap[k]? = some (.cells cs t (0, 0))) (ht : t ≠ 3) (hg : wr.grownBy w' vP.ownBlock) : w'.heap[k]? = some (.cells cs t (0, 0)) := h.P.other hb ht hg
end
/-- What is left of a text as partitions. -/
def decL (s : ByteArray) (n order W : Nat) : Nat → Nat → List Int → List Int → List Int → Nat → Option (List Int × List Int × List Int × Nat)
  | 0, i, al, ps, es, q => some (al, ps, es, q)
  | d + 1, i, al, ps, es, q =>
    if (partR s q (if i = 0 then n - order else n) W).2.2.2.1 = 0 then decL s n order W d (i + 1) (al ++ (partR s q (if i = 0 then n - order else n) W).1) (ps ++ [(partR s q (if i = 0 then n - order else n) W).2.1]) (es ++ [(partR s q (if i = 0 then n - order else n) W).2.2.1]) (partR s q (if i = 0 then n - order else n) W).2.2.2.2
    else none
section
variable {ops : Array Oper} {o : Oper} {a : Act} {Q : Exit → Act → World → Prop} {Kc : Act → World → Prop} {rest : List Oper}
/-- A list appended to a list of one's own. -/
theorem app_intlist {w0 W : World} {C : Nat} (s x : Operand) {v : Value} {xs ys : List Int} {A : Option Addr} {c : Nat} (hgd : o.guard = none)
    (ho : o.op = .call { callee := .builtin .append, args := #[s, x], argTypes := #[22, 22] }) (hs : a.eval s = v) (hx : a.eval x = .slice A ys.length c)
    (HO : IntsAt W C v xs) (HC : Kd.C (Kd.int .i64) W A ys.length ys) (HB : Below C w0 W) (hC : C ≤ W.heap.size) (hl : xs.length + ys.length ≤ 1000000)
    (h : ∀ v1 w1, Aside0 (IntsAt w1 C v1 (xs ++ ys)) → Aside0 (Below C w0 w1) → Aside0 (W.grownBy w1 v.ownBlock) → Aside0 (v1.ownBlock = v.ownBlock ∨ ∃ b, v1.ownBlock = some b ∧ W.heap.size ≤ b) → wpList Try.prog ops Q rest (a.put o.dst v1) w1) :
    wpList Try.prog ops Q (o :: rest) a W :=
  Kd.R_append_rows (Kd.int .i64) (w0 := w0) C hgd s x 22 3 (.int .i64 0) 8 ho Try.underlying22 infoI rfl (by decide) (by decide) v xs ys A ys.length c (fun _ => True) (fun _ => False) hs hx
    HO.all HC (fun _ _ hx => hx) (fun _ hk => hk.elim) (fun _ _ => trivial) HB hC (by omega) (fun v1 w1 h1 h2 h3 h4 => h v1 w1 ⟨.of h1⟩ ⟨h2⟩ ⟨h3⟩ ⟨h4⟩)
end
end Go.Proofs.Ytfhekkoibmlmpaa.Hand

/- Contracts of layer 8, proved by hand: Decode, where it is refused at once. -/
namespace Go.Proofs.Ytfhekkoibmlmpaa.Hand
open Go.RowKit Go.Proofs.Ytfhekkoibmlmpaa.Q Go.Proofs.YtfhekkoibmlmpaaW.PrintWords Go.Proofs.YtfhekkoibmlmpaaW.PrintLast Go.Proofs.YtfhekkoibmlmpaaW.PrintMore
set_option linter.unusedVariables false
set_option linter.unusedSimpArgs false

def badArgs (block order : Int) : Prop := block < 1 ∨ 65535 < block ∨ order < 0 ∨ 32 < order ∨ block < order
instance (block order : Int) : Decidable (badArgs block order) := by unfold badArgs; infer_instance
set_option maxHeartbeats 8000000 in
set_option maxRecDepth 100000 in
theorem Decode_arg (block order : Int) (p : Value) (w : World) (hp : p = .pointer none ∨ ∃ g, p = .pointer (some ⟨g, 0, none⟩) ∧ badArgs block order) :
    Calls Try.prog 21 #[p, .int .i64 block, .int .i64 order] w fun e w' => e = .returned (.tuple #[.slice none 0 0, .agg zRice, .int .i64 1]) ∧ Below w.heap.size w w' := by
  have hup := Try.underlying45
  have HZ := Aside0.mk (blk_new w (.cells zRice 24 (0, 0)))
  have HB := Aside0.mk (below_alloc (Below.refl w.heap.size w) (.cells zRice 24 (0, 0)))
  have h6 : p = .pointer none ∨ (∃ g, p = .pointer (some ⟨g, 0, none⟩) ∧ block < 1) ∨ (∃ g, p = .pointer (some ⟨g, 0, none⟩) ∧ ¬ block < 1 ∧ 65535 < block) ∨ (∃ g, p = .pointer (some ⟨g, 0, none⟩) ∧ ¬ block < 1 ∧ ¬ 65535 < block ∧ order < 0) ∨
      (∃ g, p = .pointer (some ⟨g, 0, none⟩) ∧ ¬ block < 1 ∧ ¬ 65535 < block ∧ ¬ order < 0 ∧ 32 < order) ∨ (∃ g, p = .pointer (some ⟨g, 0, none⟩) ∧ ¬ block < 1 ∧ ¬ 65535 < block ∧ ¬ order < 0 ∧ ¬ 32 < order ∧ block < order) := by
    rcases hp with h | ⟨g, h, hb⟩
    · exact .inl h
    · unfold badArgs at hb
      by_cases c1 : block < 1
      · exact .inr (.inl ⟨g, h, c1⟩)
      by_cases c2 : 65535 < block
      · exact .inr (.inr (.inl ⟨g, h, c1, c2⟩))
      by_cases c3 : order < 0
      · exact .inr (.inr (.inr (.inl ⟨g, h, c1, c2, c3⟩)))
      by_cases c4 : 32 < order
      · exact .inr (.inr (.inr (.inr (.inl ⟨g, h, c1, c2, c3, c4⟩))))
      · exact .inr (.inr (.inr (.inr (.inr ⟨g, h, c1, c2, c3, c4, by omega⟩))))
  clear hp
  rcases h6 with rfl | ⟨g, rfl, h1⟩ | ⟨g, rfl, h1, h2⟩ | ⟨g, rfl, h1, h2, h3⟩ | ⟨g, rfl, h1, h2, h3, h4⟩ | ⟨g, rfl, h1, h2, h3, h4, h5⟩
  all_goals
    go_enter Try.func21, Try.ntmps21
    go_wp2_with ((with_reducible refine wpList_store_row ?_ 24 (.tmp 7) (.tmp 44) ?_ w.heap.size zRice ?_ ?_ 24 zRice HZ.out (rc_info _ _ _ _) ?_ (rc_one _ _ _ _ _ _ _ _) ?_); rfl; rfl; rfl; rfl; rfl)
    refine bodyPost_ret (results_tct rfl _ _ w.heap.size 24 zRice (0, 0) _ rfl (setRow_heap _ _ _ _ _ _ HZ.out) Try.underlying24 rfl (rc_info _ _ _ _)) rfl ?_
    exact ⟨rfl, below_setRow HB.out (Nat.le_refl _) _⟩
end Go.Proofs.Ytfhekkoibmlmpaa.Hand

/- Contracts of layer 8, proved by hand: Decode, where it is refused behind its head. -/
namespace Go.Proofs.Ytfhekkoibmlmpaa.Hand
open Go.RowKit Go.Proofs.Ytfhekkoibmlmpaa.Q Go.Proofs.YtfhekkoibmlmpaaW.PrintWords Go.Proofs.YtfhekkoibmlmpaaW.PrintLast Go.Proofs.YtfhekkoibmlmpaaW.PrintMore
set_option linter.unusedVariables false
set_option linter.unusedSimpArgs false

theorem RAt.setRow {w : World} {g b q : Nat} {s : ByteArray} {cs : Array Value} (h : RAt w g s q) (hb : b ≠ g) : RAt (w.setRow b cs) g s q := by
  unfold RAt
  rw [setRow_other w b g cs (fun e => hb e.symm)]
  exact h
theorem Turned.setRow {B g b : Nat} {w w' : World} {cs : Array Value} (h : Turned B g w w') (hb : w.heap.size ≤ b) (hB : B ≤ b) : Turned B g w (w'.setRow b cs) :=
  ⟨below_setRow h.below hB cs, ⟨by have := h.kept.1; simpa [World.setRow] using this, fun i hi hn => by rw [setRow_other w' b i cs (by omega)]; exact h.kept.2 i hi hn⟩⟩
set_option maxHeartbeats 8000000 in
set_option maxRecDepth 100000 in
theorem Decode_head (s : ByteArray) (hs : s.size ≤ 281474976710656) (p : Nat) (hp : p ≤ 8 * s.size) (block order : Int) (hbad : ¬ badArgs block order) (B g : Nat) (hB : B ≤ g) (w : World) (hR : RAt w g s p)
    (h : ¬ (getR s p 2).2.1 = 0 ∨ ((getR s p 2).2.1 = 0 ∧ ¬ (getR s (getR s p 2).2.2 4).2.1 = 0) ∨ ((getR s p 2).2.1 = 0 ∧ (getR s (getR s p 2).2.2 4).2.1 = 0 ∧ ¬ shapeP (getR s p 2).1 (getR s (getR s p 2).2.2 4).1 block order)) :
    Calls Try.prog 21 #[.pointer (some ⟨g, 0, none⟩), .int .i64 block, .int .i64 order] w fun e w' => e = .returned (.tuple #[.slice none 0 0, .agg zRice, .int .i64 2]) ∧ (∃ q, RAt w' g s q ∧ q ≤ 8 * s.size) ∧ Turned B g w w' := by
  have hup := Try.underlying45
  obtain ⟨x1, x2, x3, x4, x5⟩ : ¬ block < 1 ∧ ¬ 65535 < block ∧ ¬ order < 0 ∧ ¬ 32 < order ∧ ¬ block < order := by unfold badArgs at hbad; omega
  have hgl := hR.lt
  have hbel : Below w.heap.size w (w.alloc (.cells zRice 24)) := below_alloc (Below.refl _ _) _
  have HG1 := Aside0.mk (Get_any s hs p hp 2 B g hB (w.alloc (.cells zRice 24)) (hR.below hbel))
  have hat1 := getR_at s p 2 hp
  have hl1 : (getR s p 2).1 < 4 := getR_small s p 2
  have HG2 : Aside0 (∀ W, RAt W g s (getR s p 2).2.2 → Calls Try.prog 41 #[.pointer (some ⟨g, 0, none⟩), .int .i64 4] W fun e w' => e = .returned (.tuple #[.int .u64 (getR s (getR s p 2).2.2 4).1, .int .i64 (getR s (getR s p 2).2.2 4).2.1]) ∧ RAt w' g s (getR s (getR s p 2).2.2 4).2.2 ∧ Turned B g W w') := ⟨fun W h => Get_any s hs _ hat1 4 B g hB W h⟩
  have hat2 := getR_at s (getR s p 2).2.2 4 hat1
  have hl2 : (getR s (getR s p 2).2.2 4).1 < 16 := getR_small s _ 4
  have HT0 := Aside0.mk ((Turned.refl B g w).new hbel (by omega))
  have HZ0 := Aside0.mk (blk_new w (.cells zRice 24 (0, 0)))
  have hb7 : w.heap.size ≠ g := by omega
  have HS := Aside0.mk hs
  clear hbad hR hbel hs
  generalize getR s (getR s p 2).2.2 4 = gr2 at h HG2 hat2 hl2 ⊢
  generalize getR s p 2 = gr1 at h HG1 HG2 hat1 hl1 ⊢
  obtain ⟨a1, e1, q1⟩ := gr1
  obtain ⟨a2, e2, q2⟩ := gr2
  simp only at h HG1 HG2 hat1 hat2 hl1 hl2 ⊢
  rcases h with h | ⟨h, h9⟩ | ⟨h, h9, hsh⟩
  · have hne : (e1 != 0) = true := bne_iff_ne.mpr h
    go_enter Try.func21, Try.ntmps21
    go_wp2_with fail
    with_reducible refine HG1.out.mono ?_
    rintro e w2 ⟨rfl, hr2, ht2⟩
    have HR2 := Aside0.mk hr2
    have HT2 := Aside0.mk (HT0.out.trans ht2)
    have HZ2 := Aside0.mk (blk_kept HZ0.out ht2.kept (fun h => hb7 h))
    clear hr2 ht2 HG1 HT0 HZ0
    go_wp2_with fail
    with_reducible refine (HG2.out w2 HR2.out).mono ?_
    rintro e w3 ⟨rfl, hr3, ht3⟩
    have HR3 := Aside0.mk hr3
    have HT3 := Aside0.mk (HT2.out.trans ht3)
    have HZ3 := Aside0.mk (blk_kept HZ2.out ht3.kept (fun h => hb7 h))
    have hg3 := hr3.lt
    have hsz3 := HT3.out.kept.1
    clear hr3 ht3 HG2 HT2 HZ2 HR2
    have HB4 := Aside0.mk (below_setRow (below_alloc (Below.refl w3.heap.size w3) (.cells zRice 24 (0, 0))) (Nat.le_refl _) #[.int .i64 a1, .int .i64 a2, .slice none 0 0, .slice none 0 0])
    have HX4 := Aside0.mk (setRow_heap _ _ _ #[.int .i64 (a1 : Int), .int .i64 (a2 : Int), .slice none 0 0, .slice none 0 0] _ _ (blk_new w3 (.cells zRice 24 (0, 0))))
    have HZ4 := Aside0.mk (blk_below HZ3.out HB4.out)
    have HR4 := Aside0.mk (HR3.out.below HB4.out)
    have HT4 := Aside0.mk (HT3.out.new HB4.out (by omega))
    clear HZ3 HR3 HT3 HB4
    clear h
    go_wp2_with (first | ((with_reducible refine wpList_store_row ?_ 24 (.tmp 13) (.tmp 59) ?_ w3.heap.size #[.int .i64 a1, .int .i64 a2, .slice none 0 0, .slice none 0 0] ?_ ?_ 24 zRice (blk_new w3 (.cells zRice 24 (0, 0))) (rc_info _ _ _ _) ?_ (rc_one _ _ _ _ _ _ _ _) ?_); rfl; rfl; rfl; rfl; rfl) | ((with_reducible refine wpList_store_row ?_ 24 (.tmp 7) (.tmp 73) ?_ w.heap.size zRice ?_ ?_ 24 zRice HZ4.out (rc_info _ _ _ _) ?_ (rc_one _ _ _ _ _ _ _ _) ?_); rfl; rfl; rfl; rfl; rfl))
    refine bodyPost_ret (results_tct rfl _ _ w.heap.size 24 zRice (0, 0) _ rfl (setRow_heap _ _ _ _ _ _ HZ4.out) Try.underlying24 rfl (rc_info _ _ _ _)) rfl ?_
    exact ⟨rfl, ⟨q2, HR4.out.setRow hb7, hat2⟩, HT4.out.setRow (Nat.le_refl _) (by omega)⟩
  · have hne : (e2 != 0) = true := bne_iff_ne.mpr h9
    subst h
    go_enter Try.func21, Try.ntmps21
    go_wp2_with fail
    with_reducible refine HG1.out.mono ?_
    rintro e w2 ⟨rfl, hr2, ht2⟩
    have HR2 := Aside0.mk hr2
    have HT2 := Aside0.mk (HT0.out.trans ht2)
    have HZ2 := Aside0.mk (blk_kept HZ0.out ht2.kept (fun h => hb7 h))
    clear hr2 ht2 HG1 HT0 HZ0
    go_wp2_with fail
    with_reducible refine (HG2.out w2 HR2.out).mono ?_
    rintro e w3 ⟨rfl, hr3, ht3⟩
    have HR3 := Aside0.mk hr3
    have HT3 := Aside0.mk (HT2.out.trans ht3)
    have HZ3 := Aside0.mk (blk_kept HZ2.out ht3.kept (fun h => hb7 h))
    have hg3 := hr3.lt
    have hsz3 := HT3.out.kept.1
    clear hr3 ht3 HG2 HT2 HZ2 HR2
    have HB4 := Aside0.mk (below_setRow (below_alloc (Below.refl w3.heap.size w3) (.cells zRice 24 (0, 0))) (Nat.le_refl _) #[.int .i64 a1, .int .i64 a2, .slice none 0 0, .slice none 0 0])
    have HX4 := Aside0.mk (setRow_heap _ _ _ #[.int .i64 (a1 : Int), .int .i64 (a2 : Int), .slice none 0 0, .slice none 0 0] _ _ (blk_new w3 (.cells zRice 24 (0, 0))))
    have HZ4 := Aside0.mk (blk_below HZ3.out HB4.out)
    have HR4 := Aside0.mk (HR3.out.below HB4.out)
    have HT4 := Aside0.mk (HT3.out.new HB4.out (by omega))
    clear HZ3 HR3 HT3 HB4
    clear h9
    go_wp2_with (first | ((with_reducible refine wpList_store_row ?_ 24 (.tmp 13) (.tmp 59) ?_ w3.heap.size #[.int .i64 a1, .int .i64 a2, .slice none 0 0, .slice none 0 0] ?_ ?_ 24 zRice (blk_new w3 (.cells zRice 24 (0, 0))) (rc_info _ _ _ _) ?_ (rc_one _ _ _ _ _ _ _ _) ?_); rfl; rfl; rfl; rfl; rfl) | ((with_reducible refine wpList_store_row ?_ 24 (.tmp 7) (.tmp 73) ?_ w.heap.size zRice ?_ ?_ 24 zRice HZ4.out (rc_info _ _ _ _) ?_ (rc_one _ _ _ _ _ _ _ _) ?_); rfl; rfl; rfl; rfl; rfl))
    refine bodyPost_ret (results_tct rfl _ _ w.heap.size 24 zRice (0, 0) _ rfl (setRow_heap _ _ _ _ _ _ HZ4.out) Try.underlying24 rfl (rc_info _ _ _ _)) rfl ?_
    exact ⟨rfl, ⟨q2, HR4.out.setRow hb7, hat2⟩, HT4.out.setRow (Nat.le_refl _) (by omega)⟩
  · subst h
    subst h9
    have HSH := Aside0.mk hsh
    clear hsh
    go_enter Try.func21, Try.ntmps21
    go_wp2_with fail
    with_reducible refine HG1.out.mono ?_
    rintro e w2 ⟨rfl, hr2, ht2⟩
    have HR2 := Aside0.mk hr2
    have HT2 := Aside0.mk (HT0.out.trans ht2)
    have HZ2 := Aside0.mk (blk_kept HZ0.out ht2.kept (fun h => hb7 h))
    clear hr2 ht2 HG1 HT0 HZ0
    go_wp2_with fail
    with_reducible refine (HG2.out w2 HR2.out).mono ?_
    rintro e w3 ⟨rfl, hr3, ht3⟩
    have HR3 := Aside0.mk hr3
    have HT3 := Aside0.mk (HT2.out.trans ht3)
    have HZ3 := Aside0.mk (blk_kept HZ2.out ht3.kept (fun h => hb7 h))
    have hg3 := hr3.lt
    have hsz3 := HT3.out.kept.1
    clear hr3 ht3 HG2 HT2 HZ2 HR2
    have HB4 := Aside0.mk (below_setRow (below_alloc (Below.refl w3.heap.size w3) (.cells zRice 24 (0, 0))) (Nat.le_refl _) #[.int .i64 a1, .int .i64 a2, .slice none 0 0, .slice none 0 0])
    have HX4 := Aside0.mk (setRow_heap _ _ _ #[.int .i64 (a1 : Int), .int .i64 (a2 : Int), .slice none 0 0, .slice none 0 0] _ _ (blk_new w3 (.cells zRice 24 (0, 0))))
    have HZ4 := Aside0.mk (blk_below HZ3.out HB4.out)
    have HR4 := Aside0.mk (HR3.out.below HB4.out)
    have HT4 := Aside0.mk (HT3.out.new HB4.out (by omega))
    clear HZ3 HR3 HT3 HB4
    have HCS : Aside0 (∀ W, Calls Try.prog 39 #[.agg #[.int .i64 a1, .int .i64 a2, .slice none 0 0, .slice none 0 0], .int .i64 block, .int .i64 order] W fun e w' => e = .returned (.bool false) ∧ Below W.heap.size W w') := ⟨fun W =>
      rice_shape.calls a1 a2 none 0 [] none 0 [] block order false W ⟨rfl, by decide, fun h => absurd h (Nat.lt_irrefl _)⟩ (Nat.le_refl _) ⟨rfl, by decide, fun h => absurd h (Nat.lt_irrefl _)⟩ (Nat.le_refl _) (by rw [shape_eq a1 a2 [] [] block order (by omega) (by omega), decide_eq_false HSH.out])⟩
    have HXB := Aside0.mk HX4.out
    go_upto_region 6 with ((with_reducible refine wpList_store_row ?_ 24 (.tmp 13) (.tmp 59) ?_ w3.heap.size #[.int .i64 a1, .int .i64 a2, .slice none 0 0, .slice none 0 0] ?_ ?_ 24 zRice (blk_new w3 (.cells zRice 24 (0, 0))) (rc_info _ _ _ _) ?_ (rc_one _ _ _ _ _ _ _ _) ?_); rfl; rfl; rfl; rfl; rfl)
    generalize (w3.alloc (.cells zRice 24 (0, 0))).setRow w3.heap.size #[.int .i64 (a1 : Int), .int .i64 (a2 : Int), .slice none 0 0, .slice none 0 0] = w4 at *
    have c0 := blk_cell HX4.out 0
    have c1 := blk_cell HX4.out 1
    have c2 := blk_cell HX4.out 2
    have c3 := blk_cell HX4.out 3
    go_wp2_with fail
    with_reducible refine (HCS.out _).mono ?_
    rintro e w5 ⟨rfl, hb5⟩
    have HZ5 := Aside0.mk (blk_below HZ4.out hb5)
    have HR5 := Aside0.mk (HR4.out.below hb5)
    have HT5 := Aside0.mk (HT4.out.new hb5 (by have := HR4.out.lt; omega))
    clear hb5 c0 c1 c2 c3 HX4 HXB HZ4 HR4 HT4 HCS
    go_wp2_with (((with_reducible refine wpList_store_row ?_ 24 (.tmp 7) (.tmp 73) ?_ w.heap.size zRice ?_ ?_ 24 zRice HZ5.out (rc_info _ _ _ _) ?_ (rc_one _ _ _ _ _ _ _ _) ?_); rfl; rfl; rfl; rfl; rfl))
    refine bodyPost_ret (results_tct rfl _ _ w.heap.size 24 zRice (0, 0) _ rfl (setRow_heap _ _ _ _ _ _ HZ5.out) Try.underlying24 rfl (rc_info _ _ _ _)) rfl ?_
    exact ⟨rfl, ⟨q2, HR5.out.setRow hb7, hat2⟩, HT5.out.setRow (Nat.le_refl _) (by omega)⟩
end Go.Proofs.Ytfhekkoibmlmpaa.Hand

/- Contracts of layer 8, proved by hand: Decode, words of its loop. -/
namespace Go.Proofs.Ytfhekkoibmlmpaa.Hand
open Go.RowKit Go.Proofs.Ytfhekkoibmlmpaa.Q Go.Proofs.YtfhekkoibmlmpaaW.PrintWords Go.Proofs.YtfhekkoibmlmpaaW.PrintLast Go.Proofs.YtfhekkoibmlmpaaW.PrintMore
set_option linter.unusedVariables false
set_option linter.unusedSimpArgs false

theorem Dis.own {W0 : World} {C : Nat} {u v v0 : Value} {xs : List Int} (h : Dis u v0) (hu : IntsAt W0 C u xs) (ho : v.ownBlock = v0.ownBlock ∨ ∃ k, v.ownBlock = some k ∧ W0.heap.size ≤ k) : Dis u v :=
  (h.symm.grown hu ho).symm
/-- The recipe's rows have grown. -/
theorem DecSt.two {w : World} {B g b7 b13 : Nat} {s : ByteArray} {m O m' O' : Int} {W0 W : World} {q : Nat} {u vP vE vP' vE' : Value} {al ps es ps' es' : List Int} (h : DecSt w B g b7 b13 s m O W0 q u vP vE al ps es) (h7 : b7 ≠ b13) (hg : g ≠ b13) (hB : B ≤ w.heap.size)
    (ht : TwoRows w.heap.size b13 24 W0 vP vE W #[.int .i64 m', .int .i64 O', vP', vE'] vP' vE' ps' es') : DecSt w B g b7 b13 s m' O' W q u vP' vE' al ps' es' := by
  have hne : ∀ {k : Nat} {t : TypeId} {cs : Array Value}, W0.heap[k]? = some (.cells cs t (0, 0)) → t ≠ 3 → k ≠ b13 → ¬ (k = b13 ∨ vP.ownBlock = some k ∨ vE.ownBlock = some k) := by
    intro k t cs hk ht hkb hn
    rcases hn with e | e | e
    · exact hkb e
    · exact (Kd.R_ne h.P.all hk (fun e2 => ht e2.symm)) e.symm
    · exact (Kd.R_ne h.E.all hk (fun e2 => ht e2.symm)) e.symm
  refine ⟨blk_kept h.rd ht.kept (hne h.rd (by decide) hg), ⟨h.tn.below.trans (ht.below.mono hB), h.tn.kept.then_ ht.kept (fun k hk => ?_)⟩, blk_kept h.z7 ht.kept (hne h.z7 (by decide) h7), ht.box, ?_, ht.P, ht.E, h.d1.own h.U ht.oP, h.d2.own h.U ht.oE, ht.dis⟩
  · rcases hk with e | e | e
    · right
      have := ht.hC
      omega
    · exact .inr (h.P.ge k e)
    · exact .inr (h.E.ge k e)
  · refine .of (Kd.R_kept h.U ht.kept (fun k hk hn => ?_))
    rcases hn with e | e | e
    · subst e
      exact (Kd.R_ne h.U.all h.r13 (by decide)) hk.symm
    · exact h.d1 k hk e
    · exact h.d2 k hk e
theorem valsR_length (s : ByteArray) (k esc : Int) : ∀ d acc e p, (valsR s k esc d acc e p).1.length ≤ acc.length + d
  | 0, acc, e, p => by simp [valsR]
  | d + 1, acc, e, p => by
    unfold valsR
    split
    · have := valsR_length s k esc d (acc ++ [(oneR s k esc p).1]) (oneR s k esc p).2.1 (oneR s k esc p).2.2
      rw [List.length_append, List.length_singleton] at this
      omega
    · simp
theorem valsR_at (s : ByteArray) (k esc : Int) : ∀ d acc e p, p ≤ 8 * s.size → (valsR s k esc d acc e p).2.2 ≤ 8 * s.size
  | 0, acc, e, p, hp => by simpa [valsR] using hp
  | d + 1, acc, e, p, hp => by
    unfold valsR
    split
    · exact valsR_at s k esc d _ _ _ (oneR_at s k esc p hp)
    · exact hp
theorem headR_at (s : ByteArray) (p W : Nat) (hp : p ≤ 8 * s.size) : (headR s p W).2.2.2 ≤ 8 * s.size := by
  unfold headR
  split
  · exact getR_at s _ 5 (getR_at s p W hp)
  · exact getR_at s p W hp
theorem partR_at (s : ByteArray) (p n W : Nat) (hp : p ≤ 8 * s.size) : (partR s p n W).2.2.2.2 ≤ 8 * s.size := valsR_at s _ _ _ _ _ _ (headR_at s p W hp)
theorem partR_length (s : ByteArray) (p n W : Nat) : (partR s p n W).1.length ≤ n := by
  have := valsR_length s (headR s p W).1 (headR s p W).2.1 n [] (headR s p W).2.2.1 (headR s p W).2.2.2
  simpa [partR] using this
/-- How Decode ends. -/
def DecPost (s : ByteArray) (m o : Int) (X : Option (List Int × List Int × List Int × Nat)) (C B g : Nat) (w : World) (e : Ending) (w' : World) : Prop :=
  (X = none ∧ e = .returned (.tuple #[.slice none 0 0, .agg zRice, .int .i64 2]) ∧ (∃ q, RAt w' g s q ∧ q ≤ 8 * s.size) ∧ Turned B g w w') ∨
  ∃ al ps es q vl vP vE, X = some (al, ps, es, q) ∧ e = .returned (.tuple #[vl, .agg #[.int .i64 m, .int .i64 o, vP, vE], .int .i64 0]) ∧ IntsAt w' C vl al ∧ IntsAt w' C vP ps ∧ IntsAt w' C vE es ∧ RAt w' g s q ∧ q ≤ 8 * s.size ∧ Turned B g w w'
theorem IntsAt.setRow {w : World} {C b t : Nat} {v : Value} {xs : List Int} {cs0 cs : Array Value} (h : IntsAt w C v xs) (hb : w.heap[b]? = some (.cells cs0 t (0, 0))) (ht : t ≠ 3) : IntsAt (w.setRow b cs) C v xs :=
  h.kept hb ht ⟨by simp [World.setRow], fun i hi hn => setRow_other w b i cs hn⟩
end Go.Proofs.Ytfhekkoibmlmpaa.Hand

/- Contracts of layer 8, proved by hand: Decode, where its head may be (method 0). -/
namespace Go.Proofs.Ytfhekkoibmlmpaa.Hand
open Go.RowKit Go.Proofs.Ytfhekkoibmlmpaa.Q Go.Proofs.YtfhekkoibmlmpaaW.PrintWords Go.Proofs.YtfhekkoibmlmpaaW.PrintLast Go.Proofs.YtfhekkoibmlmpaaW.PrintMore
set_option linter.unusedVariables false
set_option linter.unusedSimpArgs false

set_option maxHeartbeats 16000000 in
set_option maxRecDepth 100000 in
theorem Decode_go0 (s : ByteArray) (hs : s.size ≤ 281474976710656) (p : Nat) (hp : p ≤ 8 * s.size) (Bk Oq n : Nat) (hbad : ¬ badArgs Bk Oq) (B g : Nat) (hB : B ≤ g) (w : World) (hBw : B ≤ w.heap.size) (hR : RAt w g s p)
    (h1 : (getR s p 2).2.1 = 0) (h2 : (getR s (getR s p 2).2.2 4).2.1 = 0) (hm : (getR s p 2).1 = 0) (hsh : shapeP 0 (getR s (getR s p 2).2.2 4).1 Bk Oq) (hn : Bk = 2 ^ (getR s (getR s p 2).2.2 4).1 * n) (hon : Oq ≤ n) :
    Calls Try.prog 21 #[.pointer (some ⟨g, 0, none⟩), .int .i64 Bk, .int .i64 Oq] w
      (DecPost s 0 (getR s (getR s p 2).2.2 4).1 (decL s n Oq 4 (2 ^ (getR s (getR s p 2).2.2 4).1) 0 [] [] [] (getR s (getR s p 2).2.2 4).2.2) w.heap.size B g w) := by
  have hup := Try.underlying45
  obtain ⟨x1, x2, x3, x4, x5⟩ : ¬ (Bk : Int) < 1 ∧ ¬ 65535 < (Bk : Int) ∧ ¬ (Oq : Int) < 0 ∧ ¬ 32 < (Oq : Int) ∧ ¬ (Bk : Int) < (Oq : Int) := by unfold badArgs at hbad; omega
  have hgl := hR.lt
  have hbel : Below w.heap.size w (w.alloc (.cells zRice 24)) := below_alloc (Below.refl _ _) _
  have HG1 := Aside0.mk (Get_any s hs p hp 2 B g hB (w.alloc (.cells zRice 24)) (hR.below hbel))
  have hat1 := getR_at s p 2 hp
  have hl1 : (getR s p 2).1 < 4 := getR_small s p 2
  have HG2 : Aside0 (∀ W, RAt W g s (getR s p 2).2.2 → Calls Try.prog 41 #[.pointer (some ⟨g, 0, none⟩), .int .i64 4] W fun e w' => e = .returned (.tuple #[.int .u64 (getR s (getR s p 2).2.2 4).1, .int .i64 (getR s (getR s p 2).2.2 4).2.1]) ∧ RAt w' g s (getR s (getR s p 2).2.2 4).2.2 ∧ Turned B g W w') := ⟨fun W h => Get_any s hs _ hat1 4 B g hB W h⟩
  have hat2 := getR_at s (getR s p 2).2.2 4 hat1
  have hl2 : (getR s (getR s p 2).2.2 4).1 < 16 := getR_small s _ 4
  have HT0 := Aside0.mk ((Turned.refl B g w).new hbel (by omega))
  have HZ0 := Aside0.mk (blk_new w (.cells zRice 24 (0, 0)))
  have hb7 : w.heap.size ≠ g := by omega
  have HS := Aside0.mk hs
  clear hbad hR hbel hs
  generalize getR s (getR s p 2).2.2 4 = gr2 at h2 hsh hn HG2 hat2 hl2 ⊢
  generalize getR s p 2 = gr1 at h1 hm HG1 HG2 hat1 hl1 ⊢
  obtain ⟨a1, e1, q1⟩ := gr1
  obtain ⟨a2, e2, q2⟩ := gr2
  simp only at h1 h2 hm hsh hn HG1 HG2 hat1 hat2 hl1 hl2 ⊢
  subst h1
  subst h2
  subst hm
  obtain ⟨X, hX⟩ : ∃ X, decL s n Oq 4 (2 ^ a2) 0 [] [] [] q2 = X := ⟨_, rfl⟩
  rw [hX]
  have HX := Aside0.mk hX
  have hN2 : 2 ^ a2 ≤ 2 ^ 15 := Nat.pow_le_pow_right (by decide) (by omega)
  have hNp : 0 < 2 ^ a2 := Nat.two_pow_pos a2
  have hsl : (1 : Int) * 2 ^ min ((a2 : Int)).toNat 64 = ((2 ^ a2 : Nat) : Int) := by
    rw [Int.toNat_natCast, Nat.min_eq_left (by omega), Int.one_mul]
    simp
  have hdv : Bk / 2 ^ a2 = n := by rw [hn]; exact Nat.mul_div_cancel_left n hNp
  have hsr : (Bk : Int) / 2 ^ min ((a2 : Int)).toNat 64 = (n : Int) := by rw [shr_small Bk a2 (by omega), hdv]
  have HCS : Aside0 (∀ W, Calls Try.prog 39 #[.agg #[.int .i64 0, .int .i64 a2, .slice none 0 0, .slice none 0 0], .int .i64 Bk, .int .i64 Oq] W fun e w' => e = .returned (.bool true) ∧ Below W.heap.size W w') := ⟨fun W =>
    rice_shape.calls 0 a2 none 0 [] none 0 [] Bk Oq true W ⟨rfl, by decide, fun h => absurd h (Nat.lt_irrefl _)⟩ (Nat.le_refl _) ⟨rfl, by decide, fun h => absurd h (Nat.lt_irrefl _)⟩ (Nat.le_refl _) (by rw [shape_eq 0 a2 [] [] Bk Oq (by omega) (by omega), decide_eq_true hsh])⟩
  have HNn : Aside0 (2 ^ a2 * n ≤ 65535) := ⟨by rw [← hn]; omega⟩
  have hn6 : n ≤ 65535 := by
    have := HNn.out
    have h3 : 1 * n ≤ 2 ^ a2 * n := Nat.mul_le_mul_right n hNp
    omega
  obtain ⟨N, hN⟩ : ∃ N, 2 ^ a2 = N := ⟨_, rfl⟩
  rw [hN] at HX hN2 hNp hsl HNn
  clear hX hn hsh hdv hN
  obtain ⟨oI, ho⟩ : ∃ oI : Int, (a2 : Int) = oI := ⟨_, rfl⟩
  have o0 : 0 ≤ oI := by omega
  have o1 : oI ≤ 64 := by omega
  have o2 : oI.toNat = a2 := by omega
  rw [ho] at hsl hsr HG2 HCS ⊢
  have HO := Aside0.mk ho
  clear ho o2 hl2
  have hj9 : IntKind.i64.wrap (1 * 2 ^ min oI.toNat 64) = (N : Int) := by rw [hsl, IntKind.wrap_i64]; omega
  have hmin : min oI.toNat 64 = oI.toNat := Nat.min_eq_left (by omega)
  have hj0 : IntKind.i64.wrap (1 * 2 ^ oI.toNat) = (N : Int) := by rw [hmin] at hj9; exact hj9
  have hj1 : IntKind.i64.wrap (2 ^ min oI.toNat 64) = (N : Int) := by rw [Int.one_mul] at hj9; exact hj9
  have hj2 : IntKind.i64.wrap (2 ^ oI.toNat) = (N : Int) := by rw [Int.one_mul] at hj0; exact hj0
  have hj3 : wrap64 (1 * 2 ^ min oI.toNat 64) = (N : Int) := by rw [hsl]; unfold wrap64; omega
  have hj4 : wrap64 (2 ^ min oI.toNat 64) = (N : Int) := by rw [Int.one_mul] at hj3; exact hj3
  have hr0 : (Bk : Int) / 2 ^ oI.toNat = (n : Int) := by rw [hmin] at hsr; exact hsr
  have HJ := Aside0.mk (And.intro hj9 (And.intro hj0 (And.intro hj1 (And.intro hj2 (And.intro hj3 hj4)))))
  have HRR := Aside0.mk (And.intro hsr hr0)
  clear hsl hmin hj9 hj0 hj1 hj2 hj3 hj4 hsr hr0
  go_enter Try.func21, Try.ntmps21
  go_wp2_with fail
  with_reducible refine HG1.out.mono ?_
  rintro e w2 ⟨rfl, hr2, ht2⟩
  have HR2 := Aside0.mk hr2
  have HT2 := Aside0.mk (HT0.out.trans ht2)
  have HZ2 := Aside0.mk (blk_kept HZ0.out ht2.kept (fun h => hb7 h))
  clear hr2 ht2 HG1 HT0 HZ0
  go_wp2_with fail
  with_reducible refine (HG2.out w2 HR2.out).mono ?_
  rintro e w3 ⟨rfl, hr3, ht3⟩
  have HR3 := Aside0.mk hr3
  have HT3 := Aside0.mk (HT2.out.trans ht3)
  have HZ3 := Aside0.mk (blk_kept HZ2.out ht3.kept (fun h => hb7 h))
  have hg3 := hr3.lt
  have hsz3 := HT3.out.kept.1
  clear hr3 ht3 HG2 HT2 HZ2 HR2
  have HB4 := Aside0.mk (below_setRow (below_alloc (Below.refl w3.heap.size w3) (.cells zRice 24 (0, 0))) (Nat.le_refl _) #[.int .i64 0, .int .i64 oI, .slice none 0 0, .slice none 0 0])
  have HX4 := Aside0.mk (setRow_heap _ _ _ #[.int .i64 0, .int .i64 oI, .slice none 0 0, .slice none 0 0] _ _ (blk_new w3 (.cells zRice 24 (0, 0))))
  have HZ4 := Aside0.mk (blk_below HZ3.out HB4.out)
  have HR4 := Aside0.mk (HR3.out.below HB4.out)
  have HT4 := Aside0.mk (HT3.out.new HB4.out (by omega))
  have h713 : w.heap.size ≠ w3.heap.size := by have := blk_lt HZ3.out; omega
  clear HZ3 HR3 HT3
  go_upto_region 6 with ((with_reducible refine wpList_store_row ?_ 24 (.tmp 13) (.tmp 59) ?_ w3.heap.size #[.int .i64 0, .int .i64 oI, .slice none 0 0, .slice none 0 0] ?_ ?_ 24 zRice (blk_new w3 (.cells zRice 24 (0, 0))) (rc_info _ _ _ _) ?_ (rc_one _ _ _ _ _ _ _ _) ?_); rfl; rfl; rfl; rfl; rfl)
  have hsz4 := HB4.out.size
  generalize (w3.alloc (.cells zRice 24 (0, 0))).setRow w3.heap.size #[.int .i64 0, .int .i64 oI, .slice none 0 0, .slice none 0 0] = w4 at *
  have hB13 : w.heap.size ≤ w3.heap.size := hsz3
  have hg13 : g ≠ w3.heap.size := by omega
  clear hsz3 hg3 HB4
  generalize w3.heap.size = b13 at *
  have c0 := blk_cell HX4.out 0
  have c1 := blk_cell HX4.out 1
  have c2 := blk_cell HX4.out 2
  have c3 := blk_cell HX4.out 3
  go_wp2_with fail
  with_reducible refine (HCS.out _).mono ?_
  rintro e w5 ⟨rfl, hb5⟩
  have hst : DecSt w B g w.heap.size b13 s 0 oI w5 q2 (.slice none 0 0) (.slice none 0 0) (.slice none 0 0) [] [] [] :=
    ⟨HR4.out.below hb5, HT4.out.new hb5 (by have := HR4.out.lt; omega), blk_below HZ4.out hb5, blk_below HX4.out hb5, IntsAt.nil _ _, IntsAt.nil _ _, IntsAt.nil _ _, Dis.nil_left _, Dis.nil_left _, Dis.nil_left _⟩
  have HST := Aside0.mk hst
  clear hb5 c0 c1 c2 c3 HX4 HZ4 HR4 HT4 HCS hst
  have d1 := blk_cell HST.out.r13 1
  obtain ⟨hj9, hj0, hj1, hj2, hj3, hj4⟩ := HJ.out
  go_wp2
  clear hj9 hj0 hj1 hj2 hj3 hj4
  go_loopw [14, 77] (fun uv iv wr => ∃ (i : Nat) (vP vE : Value) (al ps es : List Int) (q : Nat), i ≤ N ∧ iv = .int .i64 i ∧ q ≤ 8 * s.size ∧ al.length ≤ i * n ∧ ps.length = i ∧ es.length = i ∧ Aside0 (DecSt w B g w.heap.size b13 s 0 oI wr q uv vP vE al ps es) ∧ Aside0 (decL s n Oq 4 (N - i) i al ps es q = X)) (fun _ iv _ => N - (intOf iv).toNat)
  case atStart => exact ⟨0, .slice none 0 0, .slice none 0 0, [], [], [], q2, Nat.zero_le _, rfl, hat2, Nat.zero_le _, rfl, rfl, HST, ⟨by rw [Nat.sub_zero]; exact HX.out⟩⟩
  case round =>
    clear HST d1 HX
    obtain ⟨i, vP, vE, al, ps, es, q, hi, rfl, hq, hal, hps, hes, HST, HX⟩ := hrel
    have HPS := Aside0.mk hps
    have HES := Aside0.mk hes
    by_cases hlt : i < N
    · have i0 : (0 : Int) ≤ (i : Int) := by omega
      have i1 : (i : Int) < (N : Int) := by omega
      obtain ⟨d, hd⟩ : ∃ d, N - i = d + 1 := ⟨N - i - 1, by omega⟩
      have hd2 : N - (i + 1) = d := by omega
      have hmul : (i + 1) * n = i * n + n := Nat.succ_mul i n
      have hle : (i + 1) * n ≤ N * n := Nat.mul_le_mul_right n (by omega)
      have HLE := Aside0.mk (Nat.le_trans hle HNn.out)
      obtain ⟨k, hk⟩ : ∃ k, (if i = 0 then n - Oq else n) = k := ⟨_, rfl⟩
      have hkn : k ≤ n := by rw [← hk]; split <;> omega
      have HPART := Aside0.mk (partition_any4 s HS.out q hq k (by omega) B g hB wr HST.out.rd)
      have hpat := partR_at s q k 4 hq
      have hplen := partR_length s q k 4
      have HX2 : Aside0 ((if (partR s q k 4).2.2.2.1 = 0 then decL s n Oq 4 d (i + 1) (al ++ (partR s q k 4).1) (ps ++ [(partR s q k 4).2.1]) (es ++ [(partR s q k 4).2.2.1]) (partR s q k 4).2.2.2.2 else none) = X) := ⟨by
        have := HX.out
        rw [hd] at this
        unfold decL at this
        rw [hk] at this
        exact this⟩
      have hal2 : al.length + k ≤ 65535 := by have := HLE.out; omega
      have hal3 : al.length + k ≤ (i + 1) * n := by omega
      have HAL := Aside0.mk hal3
      have HD := Aside0.mk hd2
      clear HX hd hd2 hmul hle hal3 hal hps hes
      generalize partR s q k 4 = pr at HPART hpat hplen HX2
      obtain ⟨L, kk, ee, er, q9⟩ := pr
      simp only at HPART hpat hplen HX2
      have c0 := blk_cell HST.out.r13 0
      have c1 := blk_cell HST.out.r13 1
      have hk2 : ((i = 0 ∧ (n : Int) - (Oq : Int) = (k : Int)) ∨ (¬ (i : Int) = 0 ∧ (k : Int) = (n : Int))) := by
        by_cases h0 : i = 0
        · left
          rw [if_pos h0] at hk
          exact ⟨h0, by omega⟩
        · right
          rw [if_neg h0] at hk
          exact ⟨by omega, by omega⟩
      have HK := Aside0.mk hk
      clear hk
      rcases hk2 with ⟨hi0, hk2⟩ | ⟨hi0, hk2⟩
      · skip
        have hne : ((i : Int) == 0) = true := beq_iff_eq.mpr (by omega)
        clear hi0 HK
        obtain ⟨hsr, hr0⟩ := HRR.out
        go_wp2_with fail
        clear hsr hr0
        with_reducible refine HPART.out.mono ?_
        rintro e w6 ⟨v6, rfl, hl6, hr6, ht6⟩
        have hst6 := HST.out.turn hr6 ht6 hb7 (fun h => hg13 h.symm)
        have HL6 := Aside0.mk hl6
        have HST6 := Aside0.mk hst6
        have hsz6 := ht6.kept.1
        clear hl6 hr6 ht6 hst6 HPART c0 c1
        cases her : er == 0 with
        | false =>
          have HXN : Aside0 (X = none) := ⟨by have := HX2.out; rw [if_neg (by simpa using her)] at this; exact this.symm⟩
          go_wp2_with ((with_reducible refine wpList_store_row ?_ 24 (.tmp 7) (.tmp 102) ?_ w.heap.size zRice ?_ ?_ 24 zRice HST6.out.z7 (rc_info _ _ _ _) ?_ (rc_one _ _ _ _ _ _ _ _) ?_); rfl; rfl; rfl; rfl; rfl)
          refine bodyPost_ret (results_tct rfl _ _ w.heap.size 24 zRice (0, 0) _ rfl (setRow_heap _ _ _ _ _ _ HST6.out.z7) Try.underlying24 rfl (rc_info _ _ _ _)) rfl ?_
          exact .inl ⟨HXN.out, rfl, ⟨q9, HST6.out.rd.setRow hb7, hpat⟩, HST6.out.tn.setRow (Nat.le_refl _) hBw⟩
        | true =>
          have her2 : er = 0 := by simpa using her
          have HX3 : Aside0 (decL s n Oq 4 d (i + 1) (al ++ L) (ps ++ [kk]) (es ++ [ee]) q9 = X) := ⟨by have := HX2.out; rw [if_pos her2] at this; exact this⟩
          clear HX2 her2
          obtain ⟨A6, c6, e6, hc6, hC6⟩ := HL6.out.C
          subst e6
          have HC6 := Aside0.mk hC6
          have hCw6 : w.heap.size ≤ w6.heap.size := HST6.out.tn.kept.1
          clear hC6
          go_wp2_with (at_builtin; (with_reducible refine app_intlist (w0 := w6) (C := w.heap.size) (v := u14) (xs := al) (ys := L) (A := A6) (c := c6) (.tmp 103) (.tmp 104) ?_ ?_ ?_ ?_ ?_ ?_ ?_ ?_ ?_ ?_); rfl; rfl; rfl; rfl; exact HST6.out.U; exact HC6.out; exact Below.refl _ _; exact hCw6; omega; intro v7 w7 HI7 HB7 HG7 HO7)
          have HST7 := Aside0.mk (HST6.out.all hBw HI7.out HG7.out HO7.out)
          clear HI7 HB7 HG7 HO7 HST6 HC6 HL6
          have hst8 := HST7.out.below hB (below_drew (Below.refl w7.heap.size w7))
          have HST8 := Aside0.mk hst8
          have hst := TwoRows.start hst8.r13 (by decide) hst8.P hst8.E hst8.d3 hB13
          have hpl : ps.length ≤ 65536 := by have := HPS.out; omega
          have hel : es.length ≤ 65536 := by have := HES.out; omega
          clear hst8 HST7
          refine start_ (n := 14) (S := fun w' => w'.cell? ⟨b13, 2, none⟩ = some (vP) ∧ w'.cell? ⟨b13, 3, none⟩ = some (vE)) (ds := [11, 13]) #[false, false, false, false, false, false, false, false, false, false, false, false, false, false] (by kernel_rfl) rfl rfl ⟨blk_cell hst.box 2, blk_cell hst.box 3⟩ (fun hHeld => ?_)
          refine pure_ (i := 0) (N := some 106) (v := ?_) (a' := ?_) #[true, false, false, false, false, false, false, false, false, false, false, false, false, false] rfl rfl (by kernel_rfl) (fun _ _ _ h => h) (Or.inl ⟨by rfl, ?_⟩) ?_ ?_
          rotate_left
          · intro w'
            go_simp
            with_reducible rfl
          rotate_left
          · simp only [Act.put, List.setIfInBounds_toArray, List.set_cons_zero, List.set_cons_succ, i64_w, i32_w]
            rfl
          refine pure_ (i := 2) (N := some 108) (v := ?_) (a' := ?_) #[true, false, true, false, false, false, false, false, false, false, false, false, false, false] rfl rfl (by kernel_rfl) (fun _ _ _ h => h) (Or.inl ⟨by rfl, ?_⟩) ?_ ?_
          rotate_left
          · intro w'
            go_simp
            with_reducible rfl
          rotate_left
          · simp only [Act.put, List.setIfInBounds_toArray, List.set_cons_zero, List.set_cons_succ, i64_w, i32_w]
            rfl
          refine pure_ (i := 5) (N := some 111) (v := ?_) (a' := ?_) #[true, false, true, false, false, true, false, false, false, false, false, false, false, false] rfl rfl (by kernel_rfl) (fun _ _ _ h => h) (Or.inl ⟨by rfl, ?_⟩) ?_ ?_
          rotate_left
          · intro w'
            go_simp
            with_reducible rfl
          rotate_left
          · simp only [Act.put, List.setIfInBounds_toArray, List.set_cons_zero, List.set_cons_succ, i64_w, i32_w]
            rfl
          refine pure_ (i := 7) (N := some 113) (v := ?_) (a' := ?_) #[true, false, true, false, false, true, false, true, false, false, false, false, false, false] rfl rfl (by kernel_rfl) (fun _ _ _ h => h) (Or.inl ⟨by rfl, ?_⟩) ?_ ?_
          rotate_left
          · intro w'
            go_simp
            with_reducible rfl
          rotate_left
          · simp only [Act.put, List.setIfInBounds_toArray, List.set_cons_zero, List.set_cons_succ, i64_w, i32_w]
            rfl
          refine take_ (i := 1) (N := some 107) (v := ?_) (a' := ?_) #[true, true, true, false, false, true, false, true, false, false, false, false, false, false] rfl rfl (by kernel_rfl) (fun _ _ _ h => h) (Or.inl ⟨by rfl, ?_⟩) hHeld ?_ ?_
          rotate_left
          · rintro w' ⟨s0, s1⟩
            go_simp
            with_reducible rfl
          rotate_left
          · simp only [Act.put, List.setIfInBounds_toArray, List.set_cons_zero, List.set_cons_succ, i64_w, i32_w]
            rfl
          refine take_ (i := 6) (N := some 112) (v := ?_) (a' := ?_) #[true, true, true, false, false, true, true, true, false, false, false, false, false, false] rfl rfl (by kernel_rfl) (fun _ _ _ h => h) (Or.inl ⟨by rfl, ?_⟩) hHeld ?_ ?_
          rotate_left
          · rintro w' ⟨s0, s1⟩
            go_simp
            with_reducible rfl
          rotate_left
          · simp only [Act.put, List.setIfInBounds_toArray, List.set_cons_zero, List.set_cons_succ, i64_w, i32_w]
            rfl
          refine join_ (σ := Nat × Value × Nat) 4 #[true, true, true, true, true, true, true, true, true, false, true, false, false, false] (fun s_ => [(109, .slice (some ⟨s_.1, 0, none⟩) 1 1), (110, s_.2.1), (114, .slice (some ⟨s_.2.2, 0, none⟩) 1 1), (116, .pointer (some ⟨b13, 2, none⟩))]) (fun s_ w' => (w'.cell? ⟨b13, 2, none⟩ = some (vP) ∧ w'.cell? ⟨b13, 3, none⟩ = some (vE)) ∧ TwoRows w.heap.size b13 24 w7.drew (vP) (vE) w' #[.int .i64 0, .int .i64 oI, vP, vE] s_.2.1 (vE) (ps ++ [kk]) (es) ∧ w'.heap[s_.2.2]? = some (.cells #[.int .i64 (ee)] 3 (0, 0))) ?_ ?_
          rotate_left
          · intro hCont
            refine two_ (i := 3) (j := 8) (Ni := some 109) (Nj := some 114) #[true, true, true, true, false, true, true, true, false, false, false, false, false, false] #[true, true, true, false, false, true, true, true, true, false, false, false, false, false] rfl rfl rfl rfl (by kernel_rfl) (by decide) (by decide) (fun K hK => ?_) (fun K hK => ?_)
            · skip
              refine value_ (w1 := ?_) (v := ?_) (by rfl) rfl ?_ ?_
              rotate_left 2
              · go_simp
                constructor
                · rfl
                · rfl
              have hb1 : (w7.drew.alloc (.cells #[.int .i64 (kk)] 3 (0, 0))).heap[w7.heap.size]? = some (.cells #[.int .i64 (kk)] 3 (0, 0)) := by simpa using blk_new w7.drew (.cells #[.int .i64 (kk)] 3 (0, 0))
              have hs9 := hst.new (below_alloc (Below.refl _ _) (.cells #[.int .i64 (kk)] 3 (0, 0)))
              clear hst
              have hst := hs9
              clear hs9
              refine hK.out _ _ ⟨blk_cell hst.box 2, blk_cell hst.box 3⟩ (fun hHeld => ?_)
              clear hK K
              refine norm_ (a' := ?_) ?_ ?_
              rotate_left
              · show Act.put _ (some 109) _ = _
                simp only [Act.put, List.setIfInBounds_toArray, List.set_cons_zero, List.set_cons_succ, i64_w, i32_w]
                rfl
              refine two_ (i := 4) (j := 8) (Ni := some 110) (Nj := some 114) #[true, true, true, true, true, true, true, true, false, false, false, false, false, false] #[true, true, true, true, false, true, true, true, true, false, false, false, false, false] rfl rfl rfl rfl (by kernel_rfl) (by decide) (by decide) (fun K hK => ?_) (fun K hK => ?_)
              · skip
                refine app_lit_step (C := w.heap.size) (.tmp 107) (.tmp 109) (v := vP) (xs := ps) (kk) ?_ ?_ ?_ ?_ hst.P hb1 hst.le (by omega) ?_
                · rfl
                · rfl
                · rfl
                · rfl
                intro v1 w1 hr1 hg1 ho1
                have hs9 := hst.growP hr1 hg1 ho1
                clear hr1 hg1 ho1 hst hb1
                have hst := hs9
                clear hs9
                refine hK.out _ _ ⟨blk_cell hst.box 2, blk_cell hst.box 3⟩ (fun hHeld => ?_)
                clear hK K
                refine norm_ (a' := ?_) ?_ ?_
                rotate_left
                · show Act.put _ (some 110) _ = _
                  simp only [Act.put, List.setIfInBounds_toArray, List.set_cons_zero, List.set_cons_succ, i64_w, i32_w]
                  rfl
                refine pure_ (i := 10) (N := some 116) (v := ?_) (a' := ?_) #[true, true, true, true, true, true, true, true, false, false, true, false, false, false] rfl rfl (by kernel_rfl) (fun _ _ _ h => h) (Or.inl ⟨by rfl, ?_⟩) ?_ ?_
                rotate_left
                · intro w'
                  go_simp
                  with_reducible rfl
                rotate_left
                · simp only [Act.put, List.setIfInBounds_toArray, List.set_cons_zero, List.set_cons_succ, i64_w, i32_w]
                  rfl
                refine one_ (i := 8) (N := some 114) #[true, true, true, true, true, true, true, true, true, false, true, false, false, false] rfl rfl (by kernel_rfl) (by decide) (fun K hK => ?_)
                refine value_ (w1 := ?_) (v := ?_) (by rfl) rfl ?_ ?_
                rotate_left 2
                · go_simp
                  constructor
                  · rfl
                  · rfl
                have hb2 : (w1.alloc (.cells #[.int .i64 (ee)] 3 (0, 0))).heap[w1.heap.size]? = some (.cells #[.int .i64 (ee)] 3 (0, 0)) := by simpa using blk_new w1 (.cells #[.int .i64 (ee)] 3 (0, 0))
                have hs9 := hst.new (below_alloc (Below.refl _ _) (.cells #[.int .i64 (ee)] 3 (0, 0)))
                clear hst
                have hst := hs9
                clear hs9
                refine hK.out _ _ ⟨blk_cell hst.box 2, blk_cell hst.box 3⟩ (fun hHeld => ?_)
                clear hK K
                refine norm_ (a' := ?_) ?_ ?_
                rotate_left
                · show Act.put _ (some 114) _ = _
                  simp only [Act.put, List.setIfInBounds_toArray, List.set_cons_zero, List.set_cons_succ, i64_w, i32_w]
                  rfl
                exact norm_ (by simp only [putAll, Act.put, List.setIfInBounds_toArray, List.set_cons_zero, List.set_cons_succ]) (hCont (⟨w7.heap.size, v1, w1.heap.size⟩ : Nat × Value × Nat) _ ⟨⟨blk_cell hst.box 2, blk_cell hst.box 3⟩, hst, hb2⟩)
              · skip
                refine value_ (w1 := ?_) (v := ?_) (by rfl) rfl ?_ ?_
                rotate_left 2
                · go_simp
                  constructor
                  · rfl
                  · rfl
                have hb2 : ((w7.drew.alloc (.cells #[.int .i64 (kk)] 3 (0, 0))).alloc (.cells #[.int .i64 (ee)] 3 (0, 0))).heap[w7.heap.size + 1]? = some (.cells #[.int .i64 (ee)] 3 (0, 0)) := by simpa using blk_new (w7.drew.alloc (.cells #[.int .i64 (kk)] 3 (0, 0))) (.cells #[.int .i64 (ee)] 3 (0, 0))
                have hd2 : ∀ j, (vP).ownBlock = some j → j ≠ w7.heap.size + 1 := fun j hj => Nat.ne_of_lt (by have h9 := hst.P.lt j hj; simp at h9; omega)
                have hb1' : ((w7.drew.alloc (.cells #[.int .i64 (kk)] 3 (0, 0))).alloc (.cells #[.int .i64 (ee)] 3 (0, 0))).heap[_]? = some _ := blk_alloc hb1 (.cells #[.int .i64 (ee)] 3 (0, 0))
                clear hb1
                have hb1 := hb1'
                clear hb1'
                have hs9 := hst.new (below_alloc (Below.refl _ _) (.cells #[.int .i64 (ee)] 3 (0, 0)))
                clear hst
                have hst := hs9
                clear hs9
                refine hK.out _ _ ⟨blk_cell hst.box 2, blk_cell hst.box 3⟩ (fun hHeld => ?_)
                clear hK K
                refine norm_ (a' := ?_) ?_ ?_
                rotate_left
                · show Act.put _ (some 114) _ = _
                  simp only [Act.put, List.setIfInBounds_toArray, List.set_cons_zero, List.set_cons_succ, i64_w, i32_w]
                  rfl
                refine one_ (i := 4) (N := some 110) #[true, true, true, true, true, true, true, true, true, false, false, false, false, false] rfl rfl (by kernel_rfl) (by decide) (fun K hK => ?_)
                refine app_lit_step (C := w.heap.size) (.tmp 107) (.tmp 109) (v := vP) (xs := ps) (kk) ?_ ?_ ?_ ?_ hst.P hb1 hst.le (by omega) ?_
                · rfl
                · rfl
                · rfl
                · rfl
                intro v1 w1 hr1 hg1 ho1
                have hb2' := lit_kept hb2 hd2 hg1
                clear hb2 hd2
                have hb2 := hb2'
                clear hb2'
                have hs9 := hst.growP hr1 hg1 ho1
                clear hr1 hg1 ho1 hst hb1
                have hst := hs9
                clear hs9
                refine hK.out _ _ ⟨blk_cell hst.box 2, blk_cell hst.box 3⟩ (fun hHeld => ?_)
                clear hK K
                refine norm_ (a' := ?_) ?_ ?_
                rotate_left
                · show Act.put _ (some 110) _ = _
                  simp only [Act.put, List.setIfInBounds_toArray, List.set_cons_zero, List.set_cons_succ, i64_w, i32_w]
                  rfl
                refine pure_ (i := 10) (N := some 116) (v := ?_) (a' := ?_) #[true, true, true, true, true, true, true, true, true, false, true, false, false, false] rfl rfl (by kernel_rfl) (fun _ _ _ h => h) (Or.inl ⟨by rfl, ?_⟩) ?_ ?_
                rotate_left
                · intro w'
                  go_simp
                  with_reducible rfl
                rotate_left
                · simp only [Act.put, List.setIfInBounds_toArray, List.set_cons_zero, List.set_cons_succ, i64_w, i32_w]
                  rfl
                exact norm_ (by simp only [putAll, Act.put, List.setIfInBounds_toArray, List.set_cons_zero, List.set_cons_succ]) (hCont (⟨w7.heap.size, v1, w7.heap.size + 1⟩ : Nat × Value × Nat) _ ⟨⟨blk_cell hst.box 2, blk_cell hst.box 3⟩, hst, hb2⟩)
            · skip
              refine value_ (w1 := ?_) (v := ?_) (by rfl) rfl ?_ ?_
              rotate_left 2
              · go_simp
                constructor
                · rfl
                · rfl
              have hb2 : (w7.drew.alloc (.cells #[.int .i64 (ee)] 3 (0, 0))).heap[w7.heap.size]? = some (.cells #[.int .i64 (ee)] 3 (0, 0)) := by simpa using blk_new w7.drew (.cells #[.int .i64 (ee)] 3 (0, 0))
              have hd2 : ∀ j, (vP).ownBlock = some j → j ≠ w7.heap.size := fun j hj => Nat.ne_of_lt (by have h9 := hst.P.lt j hj; simp at h9; omega)
              have hs9 := hst.new (below_alloc (Below.refl _ _) (.cells #[.int .i64 (ee)] 3 (0, 0)))
              clear hst
              have hst := hs9
              clear hs9
              refine hK.out _ _ ⟨blk_cell hst.box 2, blk_cell hst.box 3⟩ (fun hHeld => ?_)
              clear hK K
              refine norm_ (a' := ?_) ?_ ?_
              rotate_left
              · show Act.put _ (some 114) _ = _
                simp only [Act.put, List.setIfInBounds_toArray, List.set_cons_zero, List.set_cons_succ, i64_w, i32_w]
                rfl
              refine one_ (i := 3) (N := some 109) #[true, true, true, true, false, true, true, true, true, false, false, false, false, false] rfl rfl (by kernel_rfl) (by decide) (fun K hK => ?_)
              refine value_ (w1 := ?_) (v := ?_) (by rfl) rfl ?_ ?_
              rotate_left 2
              · go_simp
                constructor
                · rfl
                · rfl
              have hb1 : ((w7.drew.alloc (.cells #[.int .i64 (ee)] 3 (0, 0))).alloc (.cells #[.int .i64 (kk)] 3 (0, 0))).heap[w7.heap.size + 1]? = some (.cells #[.int .i64 (kk)] 3 (0, 0)) := by simpa using blk_new (w7.drew.alloc (.cells #[.int .i64 (ee)] 3 (0, 0))) (.cells #[.int .i64 (kk)] 3 (0, 0))
              have hb2' : ((w7.drew.alloc (.cells #[.int .i64 (ee)] 3 (0, 0))).alloc (.cells #[.int .i64 (kk)] 3 (0, 0))).heap[_]? = some _ := blk_alloc hb2 (.cells #[.int .i64 (kk)] 3 (0, 0))
              clear hb2
              have hb2 := hb2'
              clear hb2'
              have hs9 := hst.new (below_alloc (Below.refl _ _) (.cells #[.int .i64 (kk)] 3 (0, 0)))
              clear hst
              have hst := hs9
              clear hs9
              refine hK.out _ _ ⟨blk_cell hst.box 2, blk_cell hst.box 3⟩ (fun hHeld => ?_)
              clear hK K
              refine norm_ (a' := ?_) ?_ ?_
              rotate_left
              · show Act.put _ (some 109) _ = _
                simp only [Act.put, List.setIfInBounds_toArray, List.set_cons_zero, List.set_cons_succ, i64_w, i32_w]
                rfl
              refine one_ (i := 4) (N := some 110) #[true, true, true, true, true, true, true, true, true, false, false, false, false, false] rfl rfl (by kernel_rfl) (by decide) (fun K hK => ?_)
              refine app_lit_step (C := w.heap.size) (.tmp 107) (.tmp 109) (v := vP) (xs := ps) (kk) ?_ ?_ ?_ ?_ hst.P hb1 hst.le (by omega) ?_
              · rfl
              · rfl
              · rfl
              · rfl
              intro v1 w1 hr1 hg1 ho1
              have hb2' := lit_kept hb2 hd2 hg1
              clear hb2 hd2
              have hb2 := hb2'
              clear hb2'
              have hs9 := hst.growP hr1 hg1 ho1
              clear hr1 hg1 ho1 hst hb1
              have hst := hs9
              clear hs9
              refine hK.out _ _ ⟨blk_cell hst.box 2, blk_cell hst.box 3⟩ (fun hHeld => ?_)
              clear hK K
              refine norm_ (a' := ?_) ?_ ?_
              rotate_left
              · show Act.put _ (some 110) _ = _
                simp only [Act.put, List.setIfInBounds_toArray, List.set_cons_zero, List.set_cons_succ, i64_w, i32_w]
                rfl
              refine pure_ (i := 10) (N := some 116) (v := ?_) (a' := ?_) #[true, true, true, true, true, true, true, true, true, false, true, false, false, false] rfl rfl (by kernel_rfl) (fun _ _ _ h => h) (Or.inl ⟨by rfl, ?_⟩) ?_ ?_
              rotate_left
              · intro w'
                go_simp
                with_reducible rfl
              rotate_left
              · simp only [Act.put, List.setIfInBounds_toArray, List.set_cons_zero, List.set_cons_succ, i64_w, i32_w]
                rfl
              exact norm_ (by simp only [putAll, Act.put, List.setIfInBounds_toArray, List.set_cons_zero, List.set_cons_succ]) (hCont (⟨w7.heap.size + 1, v1, w7.heap.size⟩ : Nat × Value × Nat) _ ⟨⟨blk_cell hst.box 2, blk_cell hst.box 3⟩, hst, hb2⟩)
          rintro ⟨b1, v1, b2⟩ w5 ⟨hHeld, hst, hb2⟩
          refine norm_ (a' := ?_) ?_ ?_
          rotate_left
          · simp only [putAll, Act.put, List.setIfInBounds_toArray, List.set_cons_zero, List.set_cons_succ]
            rfl
          refine one_ (i := 9) (N := some 115) #[true, true, true, true, true, true, true, true, true, true, true, false, false, false] rfl rfl (by kernel_rfl) (by decide) (fun K hK => ?_)
          refine app_lit_step (C := w.heap.size) (.tmp 112) (.tmp 114) (v := vE) (xs := es) (ee) ?_ ?_ ?_ ?_ hst.E hb2 hst.le (by omega) ?_
          · rfl
          · rfl
          · rfl
          · rfl
          intro v2 w6 hr2 hg2 ho2
          have hs9 := hst.growE hr2 hg2 ho2
          clear hr2 hg2 ho2 hst hb2
          have hst := hs9
          clear hs9
          obtain ⟨A1_, n1_, c1_, e1_⟩ := hst.P.shape
          subst e1_
          obtain ⟨A2_, n2_, c2_, e2_⟩ := hst.E.shape
          subst e2_
          have cP_ := blk_cell hst.box 2
          have cE_ := blk_cell hst.box 3
          have fP_ := blk_frozen hst.box 2
          have fE_ := blk_frozen hst.box 3
          refine hK.out _ _ ⟨blk_cell hst.box 2, blk_cell hst.box 3⟩ (fun hHeld => ?_)
          clear hK K
          refine norm_ (a' := ?_) ?_ ?_
          rotate_left
          · show Act.put _ (some 115) _ = _
            simp only [Act.put, List.setIfInBounds_toArray, List.set_cons_zero, List.set_cons_succ, i64_w, i32_w]
            rfl
          refine last_ (i := 11) (N := none) #[true, true, true, true, true, true, true, true, true, true, true, true, false, false] rfl rfl (by kernel_rfl) (by decide) (fun K hK => ?_)
          refine skip_ (w1 := ?_) (by rfl) rfl ?_ ?_
          rotate_left
          · go_simp
            rfl
          refine hK.out _ _ ?_
          clear hK K
          refine pure_ (i := 12) (N := some 117) (v := ?_) (a' := ?_) #[true, true, true, true, true, true, true, true, true, true, true, true, true, false] rfl rfl (by kernel_rfl) (fun _ _ _ h => h) (Or.inl ⟨by rfl, ?_⟩) ?_ ?_
          rotate_left
          · intro w'
            go_simp
            with_reducible rfl
          rotate_left
          · simp only [Act.put, List.setIfInBounds_toArray, List.set_cons_zero, List.set_cons_succ, i64_w, i32_w]
            rfl
          refine last_ (i := 13) (N := none) #[true, true, true, true, true, true, true, true, true, true, true, true, true, true] rfl rfl (by kernel_rfl) (by decide) (fun K hK => ?_)
          refine skip_ (w1 := ?_) (by rfl) rfl ?_ ?_
          rotate_left
          · go_simp
            rfl
          refine hK.out _ _ ?_
          clear hK K
          refine done_ (by kernel_rfl) ?_
          have hs9 := (hst.put 2 (.slice A1_ n1_ c1_) (cells2 := #[.int .i64 0, .int .i64 oI, (.slice A1_ n1_ c1_), vE]) rfl).put 3 (.slice A2_ n2_ c2_) (cells2 := #[.int .i64 0, .int .i64 oI, (.slice A1_ n1_ c1_), (.slice A2_ n2_ c2_)]) rfl
          clear hst cP_ cE_ fP_ fE_
          have hst := hs9
          clear hs9
          have HST9 := Aside0.mk (HST8.out.two h713 hg13 hBw hst)
          clear hst HST8
          go_wp2
          go_roundw
          case rel => exact ⟨i + 1, _, _, al ++ L, ps ++ [kk], es ++ [ee], q9, by omega, by go_num, hpat, by have := HAL.out; rw [List.length_append]; omega, by rw [List.length_append, HPS.out]; rfl, by rw [List.length_append, HES.out]; rfl, HST9, ⟨by rw [HD.out]; exact HX3.out⟩⟩
          case measure => simp [intOf]; omega
      · have hne : ((i : Int) == 0) = false := beq_eq_false_iff_ne.mpr hi0
        have hkn2 : n = k := by omega
        clear hk2 hi0 HK
        subst hkn2
        obtain ⟨hsr, hr0⟩ := HRR.out
        go_wp2_with fail
        clear hsr hr0
        with_reducible refine HPART.out.mono ?_
        rintro e w6 ⟨v6, rfl, hl6, hr6, ht6⟩
        have hst6 := HST.out.turn hr6 ht6 hb7 (fun h => hg13 h.symm)
        have HL6 := Aside0.mk hl6
        have HST6 := Aside0.mk hst6
        have hsz6 := ht6.kept.1
        clear hl6 hr6 ht6 hst6 HPART c0 c1
        cases her : er == 0 with
        | false =>
          have HXN : Aside0 (X = none) := ⟨by have := HX2.out; rw [if_neg (by simpa using her)] at this; exact this.symm⟩
          go_wp2_with ((with_reducible refine wpList_store_row ?_ 24 (.tmp 7) (.tmp 102) ?_ w.heap.size zRice ?_ ?_ 24 zRice HST6.out.z7 (rc_info _ _ _ _) ?_ (rc_one _ _ _ _ _ _ _ _) ?_); rfl; rfl; rfl; rfl; rfl)
          refine bodyPost_ret (results_tct rfl _ _ w.heap.size 24 zRice (0, 0) _ rfl (setRow_heap _ _ _ _ _ _ HST6.out.z7) Try.underlying24 rfl (rc_info _ _ _ _)) rfl ?_
          exact .inl ⟨HXN.out, rfl, ⟨q9, HST6.out.rd.setRow hb7, hpat⟩, HST6.out.tn.setRow (Nat.le_refl _) hBw⟩
        | true =>
          have her2 : er = 0 := by simpa using her
          have HX3 : Aside0 (decL s n Oq 4 d (i + 1) (al ++ L) (ps ++ [kk]) (es ++ [ee]) q9 = X) := ⟨by have := HX2.out; rw [if_pos her2] at this; exact this⟩
          clear HX2 her2
          obtain ⟨A6, c6, e6, hc6, hC6⟩ := HL6.out.C
          subst e6
          have HC6 := Aside0.mk hC6
          have hCw6 : w.heap.size ≤ w6.heap.size := HST6.out.tn.kept.1
          clear hC6
          go_wp2_with (at_builtin; (with_reducible refine app_intlist (w0 := w6) (C := w.heap.size) (v := u14) (xs := al) (ys := L) (A := A6) (c := c6) (.tmp 103) (.tmp 104) ?_ ?_ ?_ ?_ ?_ ?_ ?_ ?_ ?_ ?_); rfl; rfl; rfl; rfl; exact HST6.out.U; exact HC6.out; exact Below.refl _ _; exact hCw6; omega; intro v7 w7 HI7 HB7 HG7 HO7)
          have HST7 := Aside0.mk (HST6.out.all hBw HI7.out HG7.out HO7.out)
          clear HI7 HB7 HG7 HO7 HST6 HC6 HL6
          have hst8 := HST7.out.below hB (below_drew (Below.refl w7.heap.size w7))
          have HST8 := Aside0.mk hst8
          have hst := TwoRows.start hst8.r13 (by decide) hst8.P hst8.E hst8.d3 hB13
          have hpl : ps.length ≤ 65536 := by have := HPS.out; omega
          have hel : es.length ≤ 65536 := by have := HES.out; omega
          clear hst8 HST7
          refine start_ (n := 14) (S := fun w' => w'.cell? ⟨b13, 2, none⟩ = some (vP) ∧ w'.cell? ⟨b13, 3, none⟩ = some (vE)) (ds := [11, 13]) #[false, false, false, false, false, false, false, false, false, false, false, false, false, false] (by kernel_rfl) rfl rfl ⟨blk_cell hst.box 2, blk_cell hst.box 3⟩ (fun hHeld => ?_)
          refine pure_ (i := 0) (N := some 106) (v := ?_) (a' := ?_) #[true, false, false, false, false, false, false, false, false, false, false, false, false, false] rfl rfl (by kernel_rfl) (fun _ _ _ h => h) (Or.inl ⟨by rfl, ?_⟩) ?_ ?_
          rotate_left
          · intro w'
            go_simp
            with_reducible rfl
          rotate_left
          · simp only [Act.put, List.setIfInBounds_toArray, List.set_cons_zero, List.set_cons_succ, i64_w, i32_w]
            rfl
          refine pure_ (i := 2) (N := some 108) (v := ?_) (a' := ?_) #[true, false, true, false, false, false, false, false, false, false, false, false, false, false] rfl rfl (by kernel_rfl) (fun _ _ _ h => h) (Or.inl ⟨by rfl, ?_⟩) ?_ ?_
          rotate_left
          · intro w'
            go_simp
            with_reducible rfl
          rotate_left
          · simp only [Act.put, List.setIfInBounds_toArray, List.set_cons_zero, List.set_cons_succ, i64_w, i32_w]
            rfl
          refine pure_ (i := 5) (N := some 111) (v := ?_) (a' := ?_) #[true, false, true, false, false, true, false, false, false, false, false, false, false, false] rfl rfl (by kernel_rfl) (fun _ _ _ h => h) (Or.inl ⟨by rfl, ?_⟩) ?_ ?_
          rotate_left
          · intro w'
            go_simp
            with_reducible rfl
          rotate_left
          · simp only [Act.put, List.setIfInBounds_toArray, List.set_cons_zero, List.set_cons_succ, i64_w, i32_w]
            rfl
          refine pure_ (i := 7) (N := some 113) (v := ?_) (a' := ?_) #[true, false, true, false, false, true, false, true, false, false, false, false, false, false] rfl rfl (by kernel_rfl) (fun _ _ _ h => h) (Or.inl ⟨by rfl, ?_⟩) ?_ ?_
          rotate_left
          · intro w'
            go_simp
            with_reducible rfl
          rotate_left
          · simp only [Act.put, List.setIfInBounds_toArray, List.set_cons_zero, List.set_cons_succ, i64_w, i32_w]
            rfl
          refine take_ (i := 1) (N := some 107) (v := ?_) (a' := ?_) #[true, true, true, false, false, true, false, true, false, false, false, false, false, false] rfl rfl (by kernel_rfl) (fun _ _ _ h => h) (Or.inl ⟨by rfl, ?_⟩) hHeld ?_ ?_
          rotate_left
          · rintro w' ⟨s0, s1⟩
            go_simp
            with_reducible rfl
          rotate_left
          · simp only [Act.put, List.setIfInBounds_toArray, List.set_cons_zero, List.set_cons_succ, i64_w, i32_w]
            rfl
          refine take_ (i := 6) (N := some 112) (v := ?_) (a' := ?_) #[true, true, true, false, false, true, true, true, false, false, false, false, false, false] rfl rfl (by kernel_rfl) (fun _ _ _ h => h) (Or.inl ⟨by rfl, ?_⟩) hHeld ?_ ?_
          rotate_left
          · rintro w' ⟨s0, s1⟩
            go_simp
            with_reducible rfl
          rotate_left
          · simp only [Act.put, List.setIfInBounds_toArray, List.set_cons_zero, List.set_cons_succ, i64_w, i32_w]
            rfl
          refine join_ (σ := Nat × Value × Nat) 4 #[true, true, true, true, true, true, true, true, true, false, true, false, false, false] (fun s_ => [(109, .slice (some ⟨s_.1, 0, none⟩) 1 1), (110, s_.2.1), (114, .slice (some ⟨s_.2.2, 0, none⟩) 1 1), (116, .pointer (some ⟨b13, 2, none⟩))]) (fun s_ w' => (w'.cell? ⟨b13, 2, none⟩ = some (vP) ∧ w'.cell? ⟨b13, 3, none⟩ = some (vE)) ∧ TwoRows w.heap.size b13 24 w7.drew (vP) (vE) w' #[.int .i64 0, .int .i64 oI, vP, vE] s_.2.1 (vE) (ps ++ [kk]) (es) ∧ w'.heap[s_.2.2]? = some (.cells #[.int .i64 (ee)] 3 (0, 0))) ?_ ?_
          rotate_left
          · intro hCont
            refine two_ (i := 3) (j := 8) (Ni := some 109) (Nj := some 114) #[true, true, true, true, false, true, true, true, false, false, false, false, false, false] #[true, true, true, false, false, true, true, true, true, false, false, false, false, false] rfl rfl rfl rfl (by kernel_rfl) (by decide) (by decide) (fun K hK => ?_) (fun K hK => ?_)
            · skip
              refine value_ (w1 := ?_) (v := ?_) (by rfl) rfl ?_ ?_
              rotate_left 2
              · go_simp
                constructor
                · rfl
                · rfl
              have hb1 : (w7.drew.alloc (.cells #[.int .i64 (kk)] 3 (0, 0))).heap[w7.heap.size]? = some (.cells #[.int .i64 (kk)] 3 (0, 0)) := by simpa using blk_new w7.drew (.cells #[.int .i64 (kk)] 3 (0, 0))
              have hs9 := hst.new (below_alloc (Below.refl _ _) (.cells #[.int .i64 (kk)] 3 (0, 0)))
              clear hst
              have hst := hs9
              clear hs9
              refine hK.out _ _ ⟨blk_cell hst.box 2, blk_cell hst.box 3⟩ (fun hHeld => ?_)
              clear hK K
              refine norm_ (a' := ?_) ?_ ?_
              rotate_left
              · show Act.put _ (some 109) _ = _
                simp only [Act.put, List.setIfInBounds_toArray, List.set_cons_zero, List.set_cons_succ, i64_w, i32_w]
                rfl
              refine two_ (i := 4) (j := 8) (Ni := some 110) (Nj := some 114) #[true, true, true, true, true, true, true, true, false, false, false, false, false, false] #[true, true, true, true, false, true, true, true, true, false, false, false, false, false] rfl rfl rfl rfl (by kernel_rfl) (by decide) (by decide) (fun K hK => ?_) (fun K hK => ?_)
              · skip
                refine app_lit_step (C := w.heap.size) (.tmp 107) (.tmp 109) (v := vP) (xs := ps) (kk) ?_ ?_ ?_ ?_ hst.P hb1 hst.le (by omega) ?_
                · rfl
                · rfl
                · rfl
                · rfl
                intro v1 w1 hr1 hg1 ho1
                have hs9 := hst.growP hr1 hg1 ho1
                clear hr1 hg1 ho1 hst hb1
                have hst := hs9
                clear hs9
                refine hK.out _ _ ⟨blk_cell hst.box 2, blk_cell hst.box 3⟩ (fun hHeld => ?_)
                clear hK K
                refine norm_ (a' := ?_) ?_ ?_
                rotate_left
                · show Act.put _ (some 110) _ = _
                  simp only [Act.put, List.setIfInBounds_toArray, List.set_cons_zero, List.set_cons_succ, i64_w, i32_w]
                  rfl
                refine pure_ (i := 10) (N := some 116) (v := ?_) (a' := ?_) #[true, true, true, true, true, true, true, true, false, false, true, false, false, false] rfl rfl (by kernel_rfl) (fun _ _ _ h => h) (Or.inl ⟨by rfl, ?_⟩) ?_ ?_
                rotate_left
                · intro w'
                  go_simp
                  with_reducible rfl
                rotate_left
                · simp only [Act.put, List.setIfInBounds_toArray, List.set_cons_zero, List.set_cons_succ, i64_w, i32_w]
                  rfl
                refine one_ (i := 8) (N := some 114) #[true, true, true, true, true, true, true, true, true, false, true, false, false, false] rfl rfl (by kernel_rfl) (by decide) (fun K hK => ?_)
                refine value_ (w1 := ?_) (v := ?_) (by rfl) rfl ?_ ?_
                rotate_left 2
                · go_simp
                  constructor
                  · rfl
                  · rfl
                have hb2 : (w1.alloc (.cells #[.int .i64 (ee)] 3 (0, 0))).heap[w1.heap.size]? = some (.cells #[.int .i64 (ee)] 3 (0, 0)) := by simpa using blk_new w1 (.cells #[.int .i64 (ee)] 3 (0, 0))
                have hs9 := hst.new (below_alloc (Below.refl _ _) (.cells #[.int .i64 (ee)] 3 (0, 0)))
                clear hst
                have hst := hs9
                clear hs9
                refine hK.out _ _ ⟨blk_cell hst.box 2, blk_cell hst.box 3⟩ (fun hHeld => ?_)
                clear hK K
                refine norm_ (a' := ?_) ?_ ?_
                rotate_left
                · show Act.put _ (some 114) _ = _
                  simp only [Act.put, List.setIfInBounds_toArray, List.set_cons_zero, List.set_cons_succ, i64_w, i32_w]
                  rfl
                exact norm_ (by simp only [putAll, Act.put, List.setIfInBounds_toArray, List.set_cons_zero, List.set_cons_succ]) (hCont (⟨w7.heap.size, v1, w1.heap.size⟩ : Nat × Value × Nat) _ ⟨⟨blk_cell hst.box 2, blk_cell hst.box 3⟩, hst, hb2⟩)
              · skip
                refine value_ (w1 := ?_) (v := ?_) (by rfl) rfl ?_ ?_
                rotate_left 2
                · go_simp
                  constructor
                  · rfl
                  · rfl
                have hb2 : ((w7.drew.alloc (.cells #[.int .i64 (kk)] 3 (0, 0))).alloc (.cells #[.int .i64 (ee)] 3 (0, 0))).heap[w7.heap.size + 1]? = some (.cells #[.int .i64 (ee)] 3 (0, 0)) := by simpa using blk_new (w7.drew.alloc (.cells #[.int .i64 (kk)] 3 (0, 0))) (.cells #[.int .i64 (ee)] 3 (0, 0))
                have hd2 : ∀ j, (vP).ownBlock = some j → j ≠ w7.heap.size + 1 := fun j hj => Nat.ne_of_lt (by have h9 := hst.P.lt j hj; simp at h9; omega)
                have hb1' : ((w7.drew.alloc (.cells #[.int .i64 (kk)] 3 (0, 0))).alloc (.cells #[.int .i64 (ee)] 3 (0, 0))).heap[_]? = some _ := blk_alloc hb1 (.cells #[.int .i64 (ee)] 3 (0, 0))
                clear hb1
                have hb1 := hb1'
                clear hb1'
                have hs9 := hst.new (below_alloc (Below.refl _ _) (.cells #[.int .i64 (ee)] 3 (0, 0)))
                clear hst
                have hst := hs9
                clear hs9
                refine hK.out _ _ ⟨blk_cell hst.box 2, blk_cell hst.box 3⟩ (fun hHeld => ?_)
                clear hK K
                refine norm_ (a' := ?_) ?_ ?_
                rotate_left
                · show Act.put _ (some 114) _ = _
                  simp only [Act.put, List.setIfInBounds_toArray, List.set_cons_zero, List.set_cons_succ, i64_w, i32_w]
                  rfl
                refine one_ (i := 4) (N := some 110) #[true, true, true, true, true, true, true, true, true, false, false, false, false, false] rfl rfl (by kernel_rfl) (by decide) (fun K hK => ?_)
                refine app_lit_step (C := w.heap.size) (.tmp 107) (.tmp 109) (v := vP) (xs := ps) (kk) ?_ ?_ ?_ ?_ hst.P hb1 hst.le (by omega) ?_
                · rfl
                · rfl
                · rfl
                · rfl
                intro v1 w1 hr1 hg1 ho1
                have hb2' := lit_kept hb2 hd2 hg1
                clear hb2 hd2
                have hb2 := hb2'
                clear hb2'
                have hs9 := hst.growP hr1 hg1 ho1
                clear hr1 hg1 ho1 hst hb1
                have hst := hs9
                clear hs9
                refine hK.out _ _ ⟨blk_cell hst.box 2, blk_cell hst.box 3⟩ (fun hHeld => ?_)
                clear hK K
                refine norm_ (a' := ?_) ?_ ?_
                rotate_left
                · show Act.put _ (some 110) _ = _
                  simp only [Act.put, List.setIfInBounds_toArray, List.set_cons_zero, List.set_cons_succ, i64_w, i32_w]
                  rfl
                refine pure_ (i := 10) (N := some 116) (v := ?_) (a' := ?_) #[true, true, true, true, true, true, true, true, true, false, true, false, false, false] rfl rfl (by kernel_rfl) (fun _ _ _ h => h) (Or.inl ⟨by rfl, ?_⟩) ?_ ?_
                rotate_left
                · intro w'
                  go_simp
                  with_reducible rfl
                rotate_left
                · simp only [Act.put, List.setIfInBounds_toArray, List.set_cons_zero, List.set_cons_succ, i64_w, i32_w]
                  rfl
                exact norm_ (by simp only [putAll, Act.put, List.setIfInBounds_toArray, List.set_cons_zero, List.set_cons_succ]) (hCont (⟨w7.heap.size, v1, w7.heap.size + 1⟩ : Nat × Value × Nat) _ ⟨⟨blk_cell hst.box 2, blk_cell hst.box 3⟩, hst, hb2⟩)
            · skip
              refine value_ (w1 := ?_) (v := ?_) (by rfl) rfl ?_ ?_
              rotate_left 2
              · go_simp
                constructor
                · rfl
                · rfl
              have hb2 : (w7.drew.alloc (.cells #[.int .i64 (ee)] 3 (0, 0))).heap[w7.heap.size]? = some (.cells #[.int .i64 (ee)] 3 (0, 0)) := by simpa using blk_new w7.drew (.cells #[.int .i64 (ee)] 3 (0, 0))
              have hd2 : ∀ j, (vP).ownBlock = some j → j ≠ w7.heap.size := fun j hj => Nat.ne_of_lt (by have h9 := hst.P.lt j hj; simp at h9; omega)
              have hs9 := hst.new (below_alloc (Below.refl _ _) (.cells #[.int .i64 (ee)] 3 (0, 0)))
              clear hst
              have hst := hs9
              clear hs9
              refine hK.out _ _ ⟨blk_cell hst.box 2, blk_cell hst.box 3⟩ (fun hHeld => ?_)
              clear hK K
              refine norm_ (a' := ?_) ?_ ?_
              rotate_left
              · show Act.put _ (some 114) _ = _
                simp only [Act.put, List.setIfInBounds_toArray, List.set_cons_zero, List.set_cons_succ, i64_w, i32_w]
                rfl
              refine one_ (i := 3) (N := some 109) #[true, true, true, true, false, true, true, true, true, false, false, false, false, false] rfl rfl (by kernel_rfl) (by decide) (fun K hK => ?_)
              refine value_ (w1 := ?_) (v := ?_) (by rfl) rfl ?_ ?_
              rotate_left 2
              · go_simp
                constructor
                · rfl
                · rfl
              have hb1 : ((w7.drew.alloc (.cells #[.int .i64 (ee)] 3 (0, 0))).alloc (.cells #[.int .i64 (kk)] 3 (0, 0))).heap[w7.heap.size + 1]? = some (.cells #[.int .i64 (kk)] 3 (0, 0)) := by simpa using blk_new (w7.drew.alloc (.cells #[.int .i64 (ee)] 3 (0, 0))) (.cells #[.int .i64 (kk)] 3 (0, 0))
              have hb2' : ((w7.drew.alloc (.cells #[.int .i64 (ee)] 3 (0, 0))).alloc (.cells #[.int .i64 (kk)] 3 (0, 0))).heap[_]? = some _ := blk_alloc hb2 (.cells #[.int .i64 (kk)] 3 (0, 0))
              clear hb2
              have hb2 := hb2'
              clear hb2'
              have hs9 := hst.new (below_alloc (Below.refl _ _) (.cells #[.int .i64 (kk)] 3 (0, 0)))
              clear hst
              have hst := hs9
              clear hs9
              refine hK.out _ _ ⟨blk_cell hst.box 2, blk_cell hst.box 3⟩ (fun hHeld => ?_)
              clear hK K
              refine norm_ (a' := ?_) ?_ ?_
              rotate_left
              · show Act.put _ (some 109) _ = _
                simp only [Act.put, List.setIfInBounds_toArray, List.set_cons_zero, List.set_cons_succ, i64_w, i32_w]
                rfl
              refine one_ (i := 4) (N := some 110) #[true, true, true, true, true, true, true, true, true, false, false, false, false, false] rfl rfl (by kernel_rfl) (by decide) (fun K hK => ?_)
              refine app_lit_step (C := w.heap.size) (.tmp 107) (.tmp 109) (v := vP) (xs := ps) (kk) ?_ ?_ ?_ ?_ hst.P hb1 hst.le (by omega) ?_
              · rfl
              · rfl
              · rfl
              · rfl
              intro v1 w1 hr1 hg1 ho1
              have hb2' := lit_kept hb2 hd2 hg1
              clear hb2 hd2
              have hb2 := hb2'
              clear hb2'
              have hs9 := hst.growP hr1 hg1 ho1
              clear hr1 hg1 ho1 hst hb1
              have hst := hs9
              clear hs9
              refine hK.out _ _ ⟨blk_cell hst.box 2, blk_cell hst.box 3⟩ (fun hHeld => ?_)
              clear hK K
              refine norm_ (a' := ?_) ?_ ?_
              rotate_left
              · show Act.put _ (some 110) _ = _
                simp only [Act.put, List.setIfInBounds_toArray, List.set_cons_zero, List.set_cons_succ, i64_w, i32_w]
                rfl
              refine pure_ (i := 10) (N := some 116) (v := ?_) (a' := ?_) #[true, true, true, true, true, true, true, true, true, false, true, false, false, false] rfl rfl (by kernel_rfl) (fun _ _ _ h => h) (Or.inl ⟨by rfl, ?_⟩) ?_ ?_
              rotate_left
              · intro w'
                go_simp
                with_reducible rfl
              rotate_left
              · simp only [Act.put, List.setIfInBounds_toArray, List.set_cons_zero, List.set_cons_succ, i64_w, i32_w]
                rfl
              exact norm_ (by simp only [putAll, Act.put, List.setIfInBounds_toArray, List.set_cons_zero, List.set_cons_succ]) (hCont (⟨w7.heap.size + 1, v1, w7.heap.size⟩ : Nat × Value × Nat) _ ⟨⟨blk_cell hst.box 2, blk_cell hst.box 3⟩, hst, hb2⟩)
          rintro ⟨b1, v1, b2⟩ w5 ⟨hHeld, hst, hb2⟩
          refine norm_ (a' := ?_) ?_ ?_
          rotate_left
          · simp only [putAll, Act.put, List.setIfInBounds_toArray, List.set_cons_zero, List.set_cons_succ]
            rfl
          refine one_ (i := 9) (N := some 115) #[true, true, true, true, true, true, true, true, true, true, true, false, false, false] rfl rfl (by kernel_rfl) (by decide) (fun K hK => ?_)
          refine app_lit_step (C := w.heap.size) (.tmp 112) (.tmp 114) (v := vE) (xs := es) (ee) ?_ ?_ ?_ ?_ hst.E hb2 hst.le (by omega) ?_
          · rfl
          · rfl
          · rfl
          · rfl
          intro v2 w6 hr2 hg2 ho2
          have hs9 := hst.growE hr2 hg2 ho2
          clear hr2 hg2 ho2 hst hb2
          have hst := hs9
          clear hs9
          obtain ⟨A1_, n1_, c1_, e1_⟩ := hst.P.shape
          subst e1_
          obtain ⟨A2_, n2_, c2_, e2_⟩ := hst.E.shape
          subst e2_
          have cP_ := blk_cell hst.box 2
          have cE_ := blk_cell hst.box 3
          have fP_ := blk_frozen hst.box 2
          have fE_ := blk_frozen hst.box 3
          refine hK.out _ _ ⟨blk_cell hst.box 2, blk_cell hst.box 3⟩ (fun hHeld => ?_)
          clear hK K
          refine norm_ (a' := ?_) ?_ ?_
          rotate_left
          · show Act.put _ (some 115) _ = _
            simp only [Act.put, List.setIfInBounds_toArray, List.set_cons_zero, List.set_cons_succ, i64_w, i32_w]
            rfl
          refine last_ (i := 11) (N := none) #[true, true, true, true, true, true, true, true, true, true, true, true, false, false] rfl rfl (by kernel_rfl) (by decide) (fun K hK => ?_)
          refine skip_ (w1 := ?_) (by rfl) rfl ?_ ?_
          rotate_left
          · go_simp
            rfl
          refine hK.out _ _ ?_
          clear hK K
          refine pure_ (i := 12) (N := some 117) (v := ?_) (a' := ?_) #[true, true, true, true, true, true, true, true, true, true, true, true, true, false] rfl rfl (by kernel_rfl) (fun _ _ _ h => h) (Or.inl ⟨by rfl, ?_⟩) ?_ ?_
          rotate_left
          · intro w'
            go_simp
            with_reducible rfl
          rotate_left
          · simp only [Act.put, List.setIfInBounds_toArray, List.set_cons_zero, List.set_cons_succ, i64_w, i32_w]
            rfl
          refine last_ (i := 13) (N := none) #[true, true, true, true, true, true, true, true, true, true, true, true, true, true] rfl rfl (by kernel_rfl) (by decide) (fun K hK => ?_)
          refine skip_ (w1 := ?_) (by rfl) rfl ?_ ?_
          rotate_left
          · go_simp
            rfl
          refine hK.out _ _ ?_
          clear hK K
          refine done_ (by kernel_rfl) ?_
          have hs9 := (hst.put 2 (.slice A1_ n1_ c1_) (cells2 := #[.int .i64 0, .int .i64 oI, (.slice A1_ n1_ c1_), vE]) rfl).put 3 (.slice A2_ n2_ c2_) (cells2 := #[.int .i64 0, .int .i64 oI, (.slice A1_ n1_ c1_), (.slice A2_ n2_ c2_)]) rfl
          clear hst cP_ cE_ fP_ fE_
          have hst := hs9
          clear hs9
          have HST9 := Aside0.mk (HST8.out.two h713 hg13 hBw hst)
          clear hst HST8
          go_wp2
          go_roundw
          case rel => exact ⟨i + 1, _, _, al ++ L, ps ++ [kk], es ++ [ee], q9, by omega, by go_num, hpat, by have := HAL.out; rw [List.length_append]; omega, by rw [List.length_append, HPS.out]; rfl, by rw [List.length_append, HES.out]; rfl, HST9, ⟨by rw [HD.out]; exact HX3.out⟩⟩
          case measure => simp [intOf]; omega
    · obtain rfl : i = N := by omega
      have hXS : X = some (al, ps, es, q) := by have := HX.out; rw [Nat.sub_self] at this; exact this.symm
      have HXS := Aside0.mk hXS
      clear hXS HX
      obtain ⟨AP_, nP_, cP_, eP_⟩ := HST.out.P.shape
      subst eP_
      obtain ⟨AE_, nE_, cE_, eE_⟩ := HST.out.E.shape
      subst eE_
      have i2 : ¬ (i : Int) < (i : Int) := Int.lt_irrefl _
      have hst := HST.out.below hB (below_drew (Below.refl wr.heap.size wr))
      clear HST
      go_wp2
      refine start_ (n := 5) (S := fun w' => w'.cell? ⟨b13, 0, none⟩ = some (.int .i64 0) ∧ w'.cell? ⟨b13, 1, none⟩ = some (.int .i64 oI) ∧ w'.cell? ⟨b13, 2, none⟩ = some (.slice AP_ nP_ cP_) ∧ w'.cell? ⟨b13, 3, none⟩ = some (.slice AE_ nE_ cE_)) (ds := [3]) #[false, false, false, false, false] (by kernel_rfl) rfl rfl ⟨blk_cell hst.r13 0, blk_cell hst.r13 1, blk_cell hst.r13 2, blk_cell hst.r13 3⟩ (fun hHeld => ?_)
      refine pure_ (i := 0) (N := some 119) (v := ?_) (a' := ?_) #[true, false, false, false, false] rfl rfl (by kernel_rfl) (fun _ _ _ h => h) (Or.inl ⟨by rfl, ?_⟩) ?_ ?_
      rotate_left
      · intro w'
        go_simp
        with_reducible rfl
      rotate_left
      · simp only [Act.put, List.setIfInBounds_toArray, List.set_cons_zero, List.set_cons_succ, i64_w, i32_w]
        rfl
      refine pure_ (i := 2) (N := some 6) (v := ?_) (a' := ?_) #[true, false, true, false, false] rfl rfl (by kernel_rfl) (fun _ _ _ h => h) (Or.inl ⟨by rfl, ?_⟩) ?_ ?_
      rotate_left
      · intro w'
        go_simp
        with_reducible rfl
      rotate_left
      · simp only [Act.put, List.setIfInBounds_toArray, List.set_cons_zero, List.set_cons_succ, i64_w, i32_w]
        rfl
      refine take_ (i := 1) (N := some 120) (v := ?_) (a' := ?_) #[true, true, true, false, false] rfl rfl (by kernel_rfl) (fun _ _ _ h => h) (Or.inl ⟨by rfl, ?_⟩) hHeld ?_ ?_
      rotate_left
      · rintro w' ⟨s0, s1, s2, s3⟩
        go_simp
        with_reducible rfl
      rotate_left
      · simp only [Act.put, List.setIfInBounds_toArray, List.set_cons_zero, List.set_cons_succ, i64_w, i32_w]
        rfl
      refine last_ (i := 3) (N := none) #[true, true, true, true, false] rfl rfl (by kernel_rfl) (by decide) (fun K hK => ?_)
      refine store_row_step 24 (.tmp 7) (.tmp 120) ?_ ?_ w.heap.size #[.int .i64 0, .int .i64 oI, .slice AP_ nP_ cP_, .slice AE_ nE_ cE_] ?_ ?_ 24 zRice hst.z7 (rc_info _ _ _ _) ?_ (rc_one _ _ _ _ _ _ _ _) ?_
      · rfl
      · rfl
      · rfl
      · rfl
      · rfl
      refine hK.out _ _ ?_
      clear hK K
      refine pure_ (i := 4) (N := some 8) (v := ?_) (a' := ?_) #[true, true, true, true, true] rfl rfl (by kernel_rfl) (fun _ _ _ h => h) (Or.inl ⟨by rfl, ?_⟩) ?_ ?_
      rotate_left
      · intro w'
        go_simp
        with_reducible rfl
      rotate_left
      · simp only [Act.put, List.setIfInBounds_toArray, List.set_cons_zero, List.set_cons_succ, i64_w, i32_w]
        rfl
      refine done_ (by kernel_rfl) ?_

      go_wp2
      refine bodyPost_ret (results_tct rfl _ _ w.heap.size 24 #[.int .i64 0, .int .i64 oI, .slice AP_ nP_ cP_, .slice AE_ nE_ cE_] (0, 0) _ rfl (setRow_heap _ _ _ _ _ _ hst.z7) Try.underlying24 rfl (rc_info _ _ _ _)) rfl ?_
      exact .inr ⟨al, ps, es, q, _, _, _, HXS.out, rfl, hst.U.setRow hst.z7 (by decide), hst.P.setRow hst.z7 (by decide), hst.E.setRow hst.z7 (by decide), hst.rd.setRow hb7, hq, hst.tn.setRow (Nat.le_refl _) hBw⟩
end Go.Proofs.Ytfhekkoibmlmpaa.Hand
