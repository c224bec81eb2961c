/- The plain laws of layer 2: rates that are read. -/
import Derived.Test.YtfhkhbmpbmjlcaaMath3
namespace Go.Proofs.Ytfhkhbmpbmjlcaa.Math
open Go.RowKit Go.Proofs.Ytfhkhbmpbmjlcaa.Q Go.Proofs.YtfhkhbmpbmjlcaaW.PrintWords Go.Proofs.YtfhkhbmpbmjlcaaW.PrintLast Go.Proofs.YtfhkhbmpbmjlcaaW.PrintMore
set_option linter.unusedVariables false
set_option linter.unusedSimpArgs false
theorem toList_data (s : ByteArray) : s.toList = s.data.toList :=
  ByteArray.toList_eq s
theorem bt_extract (s : ByteArray) (a b i : Nat) (hb : b ≤ s.size) (hi : a + i < b) : bt (s.extract a b) (i : Nat) = bt s ((a + i : Nat) : Int) := by
  have h1 : i < (s.extract a b).size := by simp; omega
  have h2 : a + i < s.size := by omega
  simp only [bt, Int.toNat_natCast, dif_pos h1, dif_pos h2]
  congr 2
  exact ByteArray.getElem_extract h1
theorem toList_inj {a b : ByteArray} (h : a.toList = b.toList) : a = b := by
  rw [toList_data, toList_data] at h
  apply ByteArray.ext
  exact Array.toList_inj.1 h
/-- The first 2 bytes, the next 4, the last 8 of ten. -/
def headN (s : ByteArray) : Int := bt s 0 * 256 + bt s 1
def highN (s : ByteArray) : Int := ((bt s 2 * 256 + bt s 3) * 256 + bt s 4) * 256 + bt s 5
def allN (s : ByteArray) : Int := (((highN s * 256 + bt s 6) * 256 + bt s 7) * 256 + bt s 8) * 256 + bt s 9
theorem headN_range (s : ByteArray) : 0 ≤ headN s ∧ headN s < 65536 := by
  have r0 := bt_range s 0
  have r1 := bt_range s 1
  unfold headN
  omega
theorem highN_range (s : ByteArray) : 0 ≤ highN s ∧ highN s < 4294967296 := by
  have r0 := bt_range s 2
  have r1 := bt_range s 3
  have r2 := bt_range s 4
  have r3 := bt_range s 5
  unfold highN
  omega
theorem fb_head (s : ByteArray) (h : s.size = 10) : fbR (s.extract 0 2) = headN s := by
  have e : (s.extract 0 2).size = 2 := by rw [ByteArray.size_extract]; omega
  have b0 := bt_extract s 0 2 0 (by omega) (by omega)
  have b1 := bt_extract s 0 2 1 (by omega) (by omega)
  have r0 := bt_range s 0
  have r1 := bt_range s 1
  have hf : fromL (s.extract 0 2) 2 = headN s := by
    simp only [fromL, headN]
    rw [b0, b1]
    simp
  have := headN_range s
  unfold fbR
  rw [e, hf, if_neg (by decide), if_neg (by omega)]
theorem fb_high (s : ByteArray) (h : s.size = 10) : fbR (s.extract 2 6) = highN s := by
  have e : (s.extract 2 6).size = 4 := by rw [ByteArray.size_extract]; omega
  have b0 := bt_extract s 2 6 0 (by omega) (by omega)
  have b1 := bt_extract s 2 6 1 (by omega) (by omega)
  have b2 := bt_extract s 2 6 2 (by omega) (by omega)
  have b3 := bt_extract s 2 6 3 (by omega) (by omega)
  have r0 := bt_range s 2
  have r1 := bt_range s 3
  have r2 := bt_range s 4
  have r3 := bt_range s 5
  have hf : fromL (s.extract 2 6) 4 = highN s := by
    simp only [fromL, highN]
    rw [b0, b1, b2, b3]
    simp
  have := highN_range s
  unfold fbR
  rw [e, hf, if_neg (by decide), if_neg (by omega)]
theorem rateL_length (n : Int) : (rateL n).length = 10 := by simp [rateL, leL, rateTail]
theorem bt_strOfNums (l : List Int) (h : ∀ x ∈ l, 0 ≤ x ∧ x < 256) (i : Nat) (hi : i < l.length) : bt (strOfNums l) (i : Nat) = l[i] := by
  rw [← rd_bytesOf, bytesOf_strOfNums l h]
  simp [rd, List.getD_eq_getElem?_getD, hi]
theorem rateL_bytes {n : Int} (h1 : 1 ≤ n) (h2 : n ≤ 655350) : ∀ x ∈ rateL n, 0 ≤ x ∧ x < 256 := by
  obtain ⟨h3, h4, h5⟩ := log_facts h1 h2
  intro x hx
  simp [rateL, leL, rateTail] at hx
  omega
theorem head_rate {n : Int} (h1 : 1 ≤ n) (h2 : n ≤ 655350) : headN (strOfNums (rateL n)) = 16383 + (Nat.log2 n.toNat : Int) := by
  obtain ⟨h3, h4, h5⟩ := log_facts h1 h2
  have b0 := bt_strOfNums (rateL n) (rateL_bytes h1 h2) 0 (by rw [rateL_length]; omega)
  have b1 := bt_strOfNums (rateL n) (rateL_bytes h1 h2) 1 (by rw [rateL_length]; omega)
  unfold headN
  rw [show (0 : Int) = ((0 : Nat) : Int) from rfl, show (1 : Int) = ((1 : Nat) : Int) from rfl, b0, b1]
  simp [rateL, leL]
  omega
/-- What FromRate gives. -/
def frR (s : ByteArray) : Int × Int :=
  if s.size = 10 then
    if 0 ≤ headN s - 16383 ∧ headN s - 16383 ≤ 19 then
      if (rateF (highN s / 2 ^ (31 - (headN s - 16383).toNat))).2 = 0 ∧ (rateF (highN s / 2 ^ (31 - (headN s - 16383).toNat))).1.toList = s.toList then (highN s / 2 ^ (31 - (headN s - 16383).toNat), 0) else (0, 3)
    else (0, 3)
  else (0, 2)
theorem div_range {x : Int} (h : 0 ≤ x ∧ x < 4294967296) (m : Nat) : 0 ≤ x / 2 ^ m ∧ x / 2 ^ m < 4294967296 := by
  have hp : (0 : Int) < 2 ^ m := Int.pow_pos (by decide)
  have h1 := Int.ediv_nonneg h.1 (Int.le_of_lt hp)
  have h2 := Int.ediv_le_self (b := 2 ^ m) (a := x) h.1
  omega
theorem FromRate_ev (s : ByteArray) : Ev (fun k => bytes_FromRate.f k s) (frR s) := by
  by_cases h : s.size = 10
  · have hh := headN_range s
    have hg := highN_range s
    have e1 : wrap64 (headN s - 16383) = headN s - 16383 := by unfold wrap64; omega
    refine Ev.congr (f := fun k => (bytes_FromBe.f k (s.extract 0 2)).bind fun t171 => (if (wrap64 (t171 - 16383)) < 0 then (bytes_FromRate.j0 k s (wrap64 (t171 - 16383)) true) else (bytes_FromRate.j0 k s (wrap64 (t171 - 16383)) (decide ((wrap64 (t171 - 16383)) > 31))))) (fun k => by simp [bytes_FromRate.f, h]) ?_
    refine Ev.bind (FromBe_ev _) ?_
    rw [fb_head s h]
    simp only [e1]
    unfold frR
    rw [if_pos h]
    by_cases c1 : headN s - 16383 < 0
    · simp only [if_pos c1]
      rw [if_neg (by omega)]
      exact Ev.step (fun k => bytes_FromRate.j0.eq_2 _ _ _ _) (by simp only [if_true]; exact Ev.now _)
    · simp only [if_neg c1]
      by_cases c2 : headN s - 16383 > 31
      · simp only [decide_eq_true c2]
        rw [if_neg (by omega)]
        exact Ev.step (fun k => bytes_FromRate.j0.eq_2 _ _ _ _) (by simp only [if_true]; exact Ev.now _)
      · simp only [decide_eq_false c2]
        refine Ev.step (fun k => bytes_FromRate.j0.eq_2 _ _ _ _) ?_
        have h6 : (6 : Int) ≤ (s.size : Int) := by omega
        have h7 : (2 : Int) ≤ 6 := by decide
        simp only [Bool.false_eq_true, if_false, if_pos h6, if_pos h7]
        refine Ev.bind (FromBe_ev _) ?_
        rw [fb_high s h]
        obtain ⟨e, he⟩ : ∃ e : Nat, headN s - 16383 = e := ⟨(headN s - 16383).toNat, by omega⟩
        have e2 : wrap64 (31 - (headN s - 16383)) = ((31 - e : Nat) : Int) := by unfold wrap64; omega
        have e3 : shr .i64 (highN s) ((31 - e : Nat) : Int) = highN s / 2 ^ (31 - e) := by
          unfold shr
          rw [Int.toNat_natCast, Nat.min_eq_left (by simp [IntKind.bits]; omega)]
        have hp : (0 : Int) ≤ ((31 - e : Nat) : Int) := by omega
        simp only [e2, if_pos hp, e3]
        have hd := div_range hg (31 - e)
        refine Ev.bind (Rate_ev _ (by omega)) ?_
        rw [show (headN s - 16383).toNat = e by omega]
        generalize highN s / 2 ^ (31 - e) = n at *
        by_cases c3 : headN s - 16383 ≤ 19
        · rw [if_pos (show 0 ≤ headN s - 16383 ∧ headN s - 16383 ≤ 19 by omega)]
          by_cases c4 : (rateF n).2 = 0
          · rw [if_pos c4]
            by_cases c5 : (rateF n).1.toList = s.toList
            · rw [if_pos c5, if_pos ⟨c4, c5⟩]; exact Ev.now _
            · rw [if_neg c5, if_neg (fun h => c5 h.2)]; exact Ev.now _
          · rw [if_neg c4, if_neg (fun h => c4 h.1)]; exact Ev.now _
        · rw [if_neg (show ¬ (0 ≤ headN s - 16383 ∧ headN s - 16383 ≤ 19) by omega)]
          by_cases c4 : (rateF n).2 = 0
          · rw [if_pos c4]
            by_cases c5 : (rateF n).1.toList = s.toList
            · exfalso
              unfold rateF at c4 c5
              split at c4
              · rename_i hn
                rw [if_pos hn] at c5
                have : strOfNums (rateL n) = s := toList_inj c5
                have h1 := head_rate hn.1 hn.2
                rw [this] at h1
                have := log_facts hn.1 hn.2
                omega
              · cases c4
            · rw [if_neg c5]; exact Ev.now _
          · rw [if_neg c4]; exact Ev.now _
  · refine Ev.of (bytes_FromRate.mono s) (k := 0) ?_
    unfold bytes_FromRate.f frR
    rw [if_neg (by omega), if_neg h]
theorem FromRateR_l0 {r : Int × Int} (s : ByteArray) (h : s.size = 10) (e : Int) (d : Nat) : ∀ (k i : Nat), i ≤ 8 → 8 - i = d →
    Ev (fun k => lacquerref02_FromRate.l0 k s e (fromL (s.extract 2 10) 8) 10) r → Ev (fun k => lacquerref02_FromRate.l0 k s e (fromL (s.extract 2 10) i) ((2 + i : Nat) : Int)) r := by
  induction d with
  | zero =>
    intro k i h1 h2 hr
    obtain rfl : i = 8 := by omega
    exact hr
  | succ d ih =>
    intro k i h1 h2 hr
    have hl := fromL_lt (s.extract 2 10) i (by omega)
    have hb := bt_range s ((2 + i : Nat) : Int)
    have hx := bt_extract s 2 10 i (by omega) (by omega)
    have e1 : IntKind.u64.wrap (IntKind.u64.wrap (fromL (s.extract 2 10) i * 256) + IntKind.u64.wrap (bt s ((2 + i : Nat) : Int))) = fromL (s.extract 2 10) (i + 1) := by
      simp only [fromL, hx]
      generalize bt s ((2 + i : Nat) : Int) = y at hb
      simp only [IntKind.wrap, IntKind.bits, IntKind.signed]
      simp
      omega
    refine Ev.step (fun k => lacquerref02_FromRate.l0.eq_2 _ _ _ _ _) ?_
    have p1 : ((2 + i : Nat) : Int) < 10 := by omega
    have p2 : (0 : Int) ≤ ((2 + i : Nat) : Int) := by omega
    have p3 : ((2 + i : Nat) : Int) < (s.size : Int) := by omega
    simp only [if_pos p1, if_pos p2, if_pos p3, e1, show wrap64 (((2 + i : Nat) : Int) + 1) = ((2 + (i + 1) : Nat) : Int) by unfold wrap64; omega]
    exact ih 0 (i + 1) (by omega) (by omega) hr
theorem all_div (s : ByteArray) (h : s.size = 10) (e : Nat) (he : e ≤ 19) : fromL (s.extract 2 10) 8 / 2 ^ (63 - e) = highN s / 2 ^ (31 - e) := by
  have b0 := bt_extract s 2 10 0 (by omega) (by omega)
  have b1 := bt_extract s 2 10 1 (by omega) (by omega)
  have b2 := bt_extract s 2 10 2 (by omega) (by omega)
  have b3 := bt_extract s 2 10 3 (by omega) (by omega)
  have b4 := bt_extract s 2 10 4 (by omega) (by omega)
  have b5 := bt_extract s 2 10 5 (by omega) (by omega)
  have b6 := bt_extract s 2 10 6 (by omega) (by omega)
  have b7 := bt_extract s 2 10 7 (by omega) (by omega)
  have r4 := bt_range s 6
  have r5 := bt_range s 7
  have r6 := bt_range s 8
  have r7 := bt_range s 9
  have ef : fromL (s.extract 2 10) 8 = allN s := by
    simp only [fromL, allN, highN]
    rw [b0, b1, b2, b3, b4, b5, b6, b7]
    simp
  have e1 : allN s / 4294967296 = highN s := by unfold allN; omega
  rw [ef, show 63 - e = 32 + (31 - e) by omega, Int.pow_add, ← Int.ediv_ediv_of_nonneg (by decide), show (2 : Int) ^ 32 = 4294967296 by decide, e1]
theorem FromRateR_ev (s : ByteArray) : Ev (fun k => lacquerref02_FromRate.f k s) (frR s) := by
  by_cases h : s.size = 10
  · have hh := headN_range s
    have hg := highN_range s
    have e1 : wrap64 (headN s - 16383) = headN s - 16383 := by unfold wrap64; omega
    refine Ev.congr (f := fun k => (lacquerref02_FromBe.f k (s.extract 0 2)).bind fun t175 => (if (wrap64 (t175 - 16383)) < 0 then (lacquerref02_FromRate.j0 k s (wrap64 (t175 - 16383)) true) else (lacquerref02_FromRate.j0 k s (wrap64 (t175 - 16383)) (decide ((wrap64 (t175 - 16383)) > 19))))) (fun k => by simp [lacquerref02_FromRate.f, h]) ?_
    refine Ev.bind (FromBeR_ev _) ?_
    rw [fb_head s h]
    simp only [e1]
    unfold frR
    rw [if_pos h]
    by_cases c1 : headN s - 16383 < 0
    · simp only [if_pos c1]
      rw [if_neg (by omega)]
      exact Ev.step (fun k => lacquerref02_FromRate.j0.eq_2 _ _ _ _) (by simp only [if_true]; exact Ev.now _)
    · simp only [if_neg c1]
      by_cases c2 : headN s - 16383 > 19
      · simp only [decide_eq_true c2]
        rw [if_neg (by omega)]
        exact Ev.step (fun k => lacquerref02_FromRate.j0.eq_2 _ _ _ _) (by simp only [if_true]; exact Ev.now _)
      · simp only [decide_eq_false c2]
        refine Ev.step (fun k => lacquerref02_FromRate.j0.eq_2 _ _ _ _) ?_
        simp only [Bool.false_eq_true, if_false]
        refine FromRateR_l0 s h (headN s - 16383) 8 0 0 (by omega) (by omega) ?_
        refine Ev.step (fun k => lacquerref02_FromRate.l0.eq_2 _ _ _ _ _) ?_
        obtain ⟨e, he⟩ : ∃ e : Nat, headN s - 16383 = e := ⟨(headN s - 16383).toNat, by omega⟩
        have e2 : IntKind.u64.wrap (wrap64 (63 - (headN s - 16383))) = ((63 - e : Nat) : Int) := by
          rw [show wrap64 (63 - (headN s - 16383)) = ((63 - e : Nat) : Int) by unfold wrap64; omega]
          simp only [IntKind.wrap, IntKind.bits, IntKind.signed]
          simp
          omega
        have e3 : shr .u64 (fromL (s.extract 2 10) 8) ((63 - e : Nat) : Int) = highN s / 2 ^ (31 - e) := by
          unfold shr
          rw [Int.toNat_natCast, Nat.min_eq_left (by simp [IntKind.bits]; omega), all_div s h e (by omega)]
        have hd := div_range hg (31 - e)
        have e4 : wrap64 (highN s / 2 ^ (31 - e)) = highN s / 2 ^ (31 - e) := by unfold wrap64; omega
        have hp : (0 : Int) ≤ ((63 - e : Nat) : Int) := by omega
        have hq : ¬ ((10 : Int) < 10) := by decide
        simp only [if_neg hq, e2, if_pos hp, e3, e4]
        refine Ev.bind (RateR_ev _) ?_
        rw [show (headN s - 16383).toNat = e by omega, if_pos (show 0 ≤ headN s - 16383 ∧ headN s - 16383 ≤ 19 by omega)]
        generalize highN s / 2 ^ (31 - e) = n at *
        by_cases c4 : (rateF n).2 = 0
        · rw [if_pos c4]
          by_cases c5 : (rateF n).1.toList = s.toList
          · rw [if_pos c5, if_pos ⟨c4, c5⟩]; exact Ev.now _
          · rw [if_neg c5, if_neg (fun h => c5 h.2)]; exact Ev.now _
        · rw [if_neg c4, if_neg (fun h => c4 h.1)]; exact Ev.now _
  · refine Ev.of (lacquerref02_FromRate.mono s) (k := 0) ?_
    unfold lacquerref02_FromRate.f frR
    rw [if_neg (by omega), if_neg h]
end Go.Proofs.Ytfhkhbmpbmjlcaa.Math
