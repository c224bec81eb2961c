/- Contracts of layer 19, proved by hand: ModelFolds, ModelBack, ModelHeads. -/
import Derived.Test.YtoologbaoifheaaModG
namespace Go.Proofs.Ytoologbaoifheaa.Hand
open Go.RowKit Go.Proofs.Ytoologbaoifheaa.Q Go.Proofs.Ytoologbaoifheaa.Math Go.Proofs.YtoologbaoifheaaW.PrintWords Go.Proofs.YtoologbaoifheaaW.PrintLast Go.Proofs.YtoologbaoifheaaW.PrintMore
set_option linter.unusedVariables false
set_option linter.unusedSimpArgs false
attribute [local go_sem] max2_int min2_int max_two min_two

theorem ints_loop (a : List Int) (h : a.length < 9223372036854775807) : ∀ d i : Nat, i + d = a.length → lacquerref05_Ints.l0 (d + 1) a a (i : Int) = some true
  | 0, i, e => by
    rw [lacquerref05_Ints.l0.eq_2]
    simp only [show ¬ ((i : Int) < (a.length : Int)) by omega, if_false]
  | d + 1, i, e => by
    rw [lacquerref05_Ints.l0.eq_2]
    simp only [show ((i : Int) < (a.length : Int)) by omega, show (0 : Int) ≤ (i : Int) by omega, if_true, wrap_id ((i : Int) + 1) (by omega) (by omega)]
    exact ints_loop a h d (i + 1) (by omega)
theorem Ints_same (l : List Int) (hl : l.length < 9223372036854775807) (A : Option Addr) (c : Nat) (B : Option Addr) (d : Nat) (w : World) (hA : Kd.C (Kd.int .i64) w A l.length l) (hc : l.length ≤ c) (hB : Kd.C (Kd.int .i64) w B l.length l) (hd : l.length ≤ d) :
    Calls Try.prog 17 #[.slice A l.length c, .slice B l.length d] w fun e w' => e = .returned (.bool true) ∧ Drawn0 w w' := by
  refine lacquerref05_Ints.calls (l.length + 1) A c l B d l true w hA hc hB hd ?_
  unfold lacquerref05_Ints.f
  rw [if_pos rfl]
  exact ints_loop l hl l.length 0 (by omega)
def tab (n : Nat) (f : Nat → Int) : List Int := (List.range n).map f
theorem tab_length (n : Nat) (f : Nat → Int) : (tab n f).length = n := by simp [tab]
theorem tab_get (n : Nat) (f : Nat → Int) (j : Nat) (h : j < n) : (tab n f).getD j 0 = f j := by simp [tab, List.getD_eq_getElem?_getD, h]
theorem and1u (x : Int) : Go.bits .and .u64 x 1 = x % 2 := by
  show IntKind.u64.wrap ((BitVec.ofInt 64 x &&& BitVec.ofInt 64 1).toNat : Int) = x % 2
  rw [show BitVec.ofInt 64 1 = 1#64 from rfl, BitVec.toNat_and, BitVec.toNat_ofInt, show (1#64).toNat = 1 from rfl, Nat.and_one_is_mod, u64_wrap]
  omega
theorem runfoldM_eq (n : Int) (h0 : -9223372036854775808 ≤ n) (h1 : n ≤ 9223372036854775807) : lacquerref19_Unfold.f n = some (unfoldM n) := by
  unfold lacquerref19_Unfold.f unfoldM
  rw [and1u, u64_wrap]
  unfold wrap64
  by_cases h : n % 2 = 0
  · rw [if_pos (by omega), if_pos h]
    congr 1
    omega
  · rw [if_neg (by omega), if_neg h]
    congr 1
    omega
/-- A slice that came in, as a list. -/
theorem came_list {w : World} {A : Option Addr} {n : Nat} {V : Nat → Int} (hn : n * 8 ≤ 140737488351232) (F : ∀ j, j < n → ∃ ad, A = some ad ∧ w.cell? (ad.add j) = some (.int .i64 (V j)) ∧ -9223372036854775808 ≤ V j ∧ V j ≤ 9223372036854775807) :
    ∃ l : List Int, l.length = n ∧ Kd.C (Kd.int .i64) w A l.length l ∧ ∀ x ∈ l, -9223372036854775808 ≤ x ∧ x ≤ 9223372036854775807 := by
  refine ⟨tab n V, tab_length n V, ?_, ?_⟩
  · refine Kd.C_of_reads (d := (0 : Int)) (enc := Value.int .i64) ⟨rfl, by rw [tab_length]; omega, fun h => ?_⟩
    rw [tab_length] at h
    obtain ⟨ad, e, _⟩ := F 0 h
    refine ⟨ad, e, fun j hj => ?_⟩
    rw [tab_length] at hj
    obtain ⟨ad2, e2, c2, _⟩ := F j hj
    rw [e] at e2
    injection e2 with e2
    subst e2
    rw [c2, tab_get n V j hj]
  · intro x hx
    obtain ⟨j, hj, rfl⟩ := List.mem_map.1 hx
    obtain ⟨_, _, _, h⟩ := F j (List.mem_range.1 hj)
    exact h
set_option maxHeartbeats 8000000 in
set_option maxRecDepth 100000 in
theorem Folds_any (n : Int) (h0 : -9223372036854775808 ≤ n) (h1 : n ≤ 9223372036854775807) (w : World) : Calls Try.prog 3 #[.int .i64 n] w fun e w' => e = .returned (.bool true) ∧ Below w.heap.size w w' := by
  have hfi := wrap64_in (2 * n)
  have hf : -9223372036854775808 ≤ foldM n ∧ foldM n ≤ 9223372036854775807 := by
    unfold foldM
    split <;> omega
  have hu : -9223372036854775808 ≤ unfoldM n ∧ unfoldM n ≤ 9223372036854775807 := by
    unfold unfoldM
    split <;> omega
  obtain ⟨b1, b2⟩ := fold_back n h0 h1
  have c1 := fun W => Fold_any n h0 h1 W
  have c2 := fun W => lacquerref19_Fold.calls n _ W (rfoldM_eq n h0 h1)
  have c3 := fun W => Unfold_any n h0 h1 W
  have c4 := fun W => lacquerref19_Unfold.calls n _ W (runfoldM_eq n h0 h1)
  have c5 := fun W => Unfold_any (foldM n) hf.1 hf.2 W
  have c6 := fun W => Fold_any (unfoldM n) hu.1 hu.2 W
  rw [b1] at c5
  rw [b2] at c6
  have C1 := Aside0.mk c1
  have C2 := Aside0.mk c2
  have C3 := Aside0.mk c3
  have C4 := Aside0.mk c4
  have C5 := Aside0.mk c5
  have C6 := Aside0.mk c6
  clear hf hu b1 b2 c1 c2 c3 c4 c5 c6 hfi
  generalize foldM n = f at C1 C2 C5
  generalize unfoldM n = u at C3 C4 C6
  go_enter Try.func3, Try.ntmps3
  go_wp2_with fail
  with_reducible refine (C1.out _).mono ?_
  rintro e w1 ⟨rfl, hd⟩
  have HB1 : Aside0 (Below w.heap.size w w1) := ⟨hd.below⟩
  clear hd
  go_wp2_with fail
  with_reducible refine (C2.out _).mono ?_
  rintro e w2 ⟨rfl, hd⟩
  have HB2 : Aside0 (Below w.heap.size w w2) := ⟨HB1.out.trans (hd.below.mono HB1.out.size)⟩
  clear hd HB1
  go_wp2_with fail
  with_reducible refine (C3.out _).mono ?_
  rintro e w3 ⟨rfl, hd⟩
  have HB3 : Aside0 (Below w.heap.size w w3) := ⟨HB2.out.trans (hd.below.mono HB2.out.size)⟩
  clear hd HB2
  go_wp2_with fail
  with_reducible refine (C4.out _).mono ?_
  rintro e w4 ⟨rfl, hd⟩
  have HB4 : Aside0 (Below w.heap.size w w4) := ⟨HB3.out.trans (hd.below.mono HB3.out.size)⟩
  clear hd HB3
  go_wp2_with fail
  with_reducible refine (C1.out _).mono ?_
  rintro e w5 ⟨rfl, hd⟩
  have HB5 : Aside0 (Below w.heap.size w w5) := ⟨HB4.out.trans (hd.below.mono HB4.out.size)⟩
  clear hd HB4
  go_wp2_with fail
  with_reducible refine (C5.out _).mono ?_
  rintro e w6 ⟨rfl, hd⟩
  have HB6 : Aside0 (Below w.heap.size w w6) := ⟨HB5.out.trans (hd.below.mono HB5.out.size)⟩
  clear hd HB5
  go_wp2_with fail
  with_reducible refine (C3.out _).mono ?_
  rintro e w7 ⟨rfl, hd⟩
  have HB7 : Aside0 (Below w.heap.size w w7) := ⟨HB6.out.trans (hd.below.mono HB6.out.size)⟩
  clear hd HB6
  go_wp2_with fail
  with_reducible refine (C6.out _).mono ?_
  rintro e w8 ⟨rfl, hd⟩
  have HB8 : Aside0 (Below w.heap.size w w8) := ⟨HB7.out.trans (hd.below.mono HB7.out.size)⟩
  clear hd HB7
  go_wp2_with fail
  with_reducible refine (awake_any _).mono ?_
  rintro e w9 ⟨rfl, hB⟩
  have HB9 := Aside0.mk (HB8.out.trans (hB.mono HB8.out.size))
  clear hB
  go_wp2
  go_ret
  exact ⟨rfl, HB9.out⟩
theorem enc_no (l : List Int) (h : ¬ ∀ n ∈ l, inB n) : encF l = (⟨#[]⟩, 1) := by unfold encF; rw [if_neg h]
theorem enc_yes (l : List Int) (h : ∀ n ∈ l, inB n) : encF l = (finishS (runS l).e, 0) := by unfold encF; rw [if_pos h]
theorem enc_most (l : List Int) (h : ∀ n ∈ l, inB n) (hl : l.length ≤ 3000) : (finishS (runS l).e).size ≤ 1000000 := by
  rw [enc_size l h]
  have := (run_ok l h).size
  omega
set_option maxHeartbeats 8000000 in
set_option maxRecDepth 100000 in
theorem Back_any (l : List Int) (A : Option Addr) (c : Nat) (behind : ByteArray) (w : World) (hA : Kd.C (Kd.int .i64) w A l.length l) (hc : l.length ≤ c) (hin : ∀ n ∈ l, -9223372036854775808 ≤ n ∧ n ≤ 9223372036854775807) (hb : behind.size ≤ 140737488351232) :
    Calls Try.prog 6 #[.slice A l.length c, .string behind] w fun e w' => e = .returned (.bool true) ∧ Below w.heap.size w w' := by
  by_cases h3 : (3000 : Int) < (l.length : Int)
  · go_enter Try.func6, Try.ntmps6
    go_wp2_with fail
    with_reducible refine (awake_any _).mono ?_
    rintro e w1 ⟨rfl, hB⟩
    have HB1 := Aside0.mk hB
    clear hB
    go_wp2
    go_ret
    exact ⟨rfl, HB1.out⟩
  · have HEN := Aside0.mk (Encode_any l A c w (Kd.reads_of_C (d := (0 : Int)) (enc := Value.int .i64) hA) (by omega) hin)
    have HA := Aside0.mk hA
    by_cases ha : ∀ n ∈ l, inB n
    · have hmost := enc_most l ha (by omega)
      have hsz := enc_size l ha
      have hdb := (dec_back l [] (by rw [List.append_nil]; exact ha) (by omega) behind).1
      rw [List.append_nil, ← hsz] at hdb
      rw [enc_yes l ha] at HEN
      have HDB := Aside0.mk hdb
      clear ha hsz hdb hA hin
      generalize finishS (runS l).e = S at HEN hmost HDB
      have hcat : S.size + behind.size ≤ 9223372036854775807 := by omega
      have HS2 : Aside0 ((S ++ behind).size ≤ 9223372036854775807) := ⟨by rw [ByteArray.size_append]; omega⟩
      go_enter Try.func6, Try.ntmps6
      go_wp2_with fail
      with_reducible refine HEN.out.mono ?_
      rintro e w1 ⟨rfl, hB⟩
      have HB1 := Aside0.mk hB
      have HA1 := Aside0.mk (Kd.C_below HA.out hB)
      clear hB HEN HA
      have HDA := Aside0.mk (Decode_any (S ++ behind) HS2.out (l.length : Nat) w1)
      rw [HDB.out] at HDA
      go_wp2_with fail
      with_reducible refine HDA.out.mono ?_
      rintro e w2 ⟨v, rfl, hG, hB⟩
      have HB2 := Aside0.mk (HB1.out.trans (hB.mono HB1.out.size))
      have HA2 := Aside0.mk (Kd.C_below HA1.out hB)
      obtain ⟨A2, c2, rfl, hc2, hC2⟩ := Got.C hG
      have HI := Aside0.mk (Ints_same l (by omega) A c A2 c2 w2 HA2.out hc hC2 hc2)
      clear hG hB hC2 HB1 HA1 HA2 HDA
      go_wp2_with fail
      with_reducible refine HI.out.mono ?_
      rintro e w3 ⟨rfl, hd⟩
      have HB3 := Aside0.mk (HB2.out.trans (hd.below.mono HB2.out.size))
      clear hd HB2 HI
      go_wp2_with fail
      with_reducible refine (awake_any _).mono ?_
      rintro e w4 ⟨rfl, hB⟩
      have HB4 := Aside0.mk (HB3.out.trans (hB.mono HB3.out.size))
      clear hB HB3
      go_wp2
      go_ret
      exact ⟨rfl, HB4.out⟩
    · rw [enc_no l ha] at HEN
      clear ha hA hin
      go_enter Try.func6, Try.ntmps6
      go_wp2_with fail
      with_reducible refine HEN.out.mono ?_
      rintro e w1 ⟨rfl, hB⟩
      have HB1 := Aside0.mk hB
      clear hB HEN HA
      go_wp2_with fail
      with_reducible refine (awake_any _).mono ?_
      rintro e w4 ⟨rfl, hB⟩
      have HB4 := Aside0.mk (HB1.out.trans (hB.mono HB1.out.size))
      clear hB HB1
      go_wp2
      go_ret
      exact ⟨rfl, HB4.out⟩
theorem Back_came (A : Option Addr) (n c : Nat) (V : Nat → Int) (behind : ByteArray) (w : World) (hc : n ≤ c) (hn : n * 8 ≤ 140737488351232) (hb : behind.size ≤ 140737488351232)
    (F : ∀ j, j < n → ∃ ad, A = some ad ∧ w.cell? (ad.add j) = some (.int .i64 (V j)) ∧ -9223372036854775808 ≤ V j ∧ V j ≤ 9223372036854775807) :
    Calls Try.prog 6 #[.slice A n c, .string behind] w fun e w' => e = .returned (.bool true) ∧ Below w.heap.size w w' := by
  obtain ⟨a, rfl, ha, ia⟩ := came_list hn F
  exact Back_any a A c behind w ha hc ia hb
set_option maxHeartbeats 8000000 in
set_option maxRecDepth 100000 in
theorem Heads_any (l : List Int) (A : Option Addr) (c : Nat) (k : Int) (w : World) (hA : Kd.C (Kd.int .i64) w A l.length l) (hc : l.length ≤ c) (hin : ∀ n ∈ l, -9223372036854775808 ≤ n ∧ n ≤ 9223372036854775807) :
    Calls Try.prog 7 #[.slice A l.length c, .int .i64 k] w fun e w' => e = .returned (.bool true) ∧ Below w.heap.size w w' := by
  by_cases h3 : (3000 : Int) < (l.length : Int)
  · go_enter Try.func7, Try.ntmps7
    go_wp2_with fail
    with_reducible refine (awake_any _).mono ?_
    rintro e w1 ⟨rfl, hB⟩
    have HB1 := Aside0.mk hB
    clear hB
    go_wp2
    go_ret
    exact ⟨rfl, HB1.out⟩
  · have HEN := Aside0.mk (Encode_any l A c w (Kd.reads_of_C (d := (0 : Int)) (enc := Value.int .i64) hA) (by omega) hin)
    have HA := Aside0.mk hA
    by_cases ha : ∀ n ∈ l, inB n
    · have hmost := enc_most l ha (by omega)
      have hsz := enc_size l ha
      obtain ⟨j1, hj1⟩ : ∃ j1 : Int, (if (l.length : Int) < k then (l.length : Int) else k) = j1 := ⟨_, rfl⟩
      obtain ⟨j, hj⟩ : ∃ j : Nat, (if 0 < j1 then j1 else 0) = (j : Int) := ⟨(if 0 < j1 then j1 else 0).toNat, by split <;> omega⟩
      have hjn : j ≤ l.length := by split at hj <;> split at hj1 <;> omega
      have hlj : (l.take j).length = j := by rw [List.length_take]; omega
      obtain ⟨hdb, hds⟩ := dec_back (l.take j) (l.drop j) (by rw [List.take_append_drop]; exact ha) (by omega) ⟨#[]⟩
      rw [List.take_append_drop, hlj, show ∀ x : ByteArray, x ++ (⟨#[]⟩ : ByteArray) = x from fun x => by apply ByteArray.ext; simp] at hdb
      rw [List.take_append_drop] at hds
      rw [enc_yes l ha] at HEN
      have HDB := Aside0.mk hdb
      obtain ⟨q, hq⟩ : ∃ q, sizeE (runS (l.take j)).e + 4 = q := ⟨_, rfl⟩
      rw [hq] at HDB
      have hqs : q ≤ (finishS (runS l).e).size := by omega
      clear ha hsz hdb hA hin hq hds
      generalize finishS (runS l).e = S at HEN hmost HDB hqs
      have HS2 : Aside0 (S.size ≤ 9223372036854775807) := ⟨by omega⟩
      have j0 : (0 : Int) ≤ (j : Int) := by omega
      have jc : (j : Int) ≤ (c : Int) := by omega
      have jc2 : ¬ (c : Int) < (j : Int) := by omega
      have qs : (q : Int) ≤ (S.size : Int) := by omega
      have HLJ := Aside0.mk hlj
      clear hlj
      go_enter Try.func7, Try.ntmps7
      go_wp2_with fail
      with_reducible refine HEN.out.mono ?_
      rintro e w1 ⟨rfl, hB⟩
      have HB1 := Aside0.mk hB
      have HA1 := Aside0.mk (Kd.C_below HA.out hB)
      clear hB HEN HA
      have HDA := Aside0.mk (Decode_any S HS2.out (j : Nat) w1)
      rw [HDB.out] at HDA
      go_wp2_with fail
      with_reducible refine HDA.out.mono ?_
      rintro e w2 ⟨v, rfl, hG, hB⟩
      have HB2 := Aside0.mk (HB1.out.trans (hB.mono HB1.out.size))
      have HA2 := Aside0.mk (Kd.C_below HA1.out hB)
      obtain ⟨A2, c2, rfl, hc2, hC2⟩ := Got.C hG
      have HI := Aside0.mk (Ints_same (l.take j) (by rw [HLJ.out]; omega) A2 c2 A c w2 hC2 hc2 (Kd.C_take HA2.out hjn) (by rw [HLJ.out]; omega))
      rw [HLJ.out] at HI hc2 ⊢
      clear hG hB hC2 HB1 HA1 HA2 HDA
      go_wp2_with fail
      with_reducible refine HI.out.mono ?_
      rintro e w3 ⟨rfl, hd⟩
      have HB3 := Aside0.mk (HB2.out.trans (hd.below.mono HB2.out.size))
      clear hd HB2 HI
      go_wp2_with fail
      with_reducible refine (awake_any _).mono ?_
      rintro e w4 ⟨rfl, hB⟩
      have HB4 := Aside0.mk (HB3.out.trans (hB.mono HB3.out.size))
      clear hB HB3
      go_wp2
      go_ret
      exact ⟨rfl, HB4.out⟩
    · rw [enc_no l ha] at HEN
      clear ha hA hin
      go_enter Try.func7, Try.ntmps7
      go_wp2_with fail
      with_reducible refine HEN.out.mono ?_
      rintro e w1 ⟨rfl, hB⟩
      have HB1 := Aside0.mk hB
      clear hB HEN HA
      go_wp2_with fail
      with_reducible refine (awake_any _).mono ?_
      rintro e w4 ⟨rfl, hB⟩
      have HB4 := Aside0.mk (HB1.out.trans (hB.mono HB1.out.size))
      clear hB HB1
      go_wp2
      go_ret
      exact ⟨rfl, HB4.out⟩
theorem Heads_came (A : Option Addr) (n c : Nat) (V : Nat → Int) (k : Int) (w : World) (hc : n ≤ c) (hn : n * 8 ≤ 140737488351232)
    (F : ∀ j, j < n → ∃ ad, A = some ad ∧ w.cell? (ad.add j) = some (.int .i64 (V j)) ∧ -9223372036854775808 ≤ V j ∧ V j ≤ 9223372036854775807) :
    Calls Try.prog 7 #[.slice A n c, .int .i64 k] w fun e w' => e = .returned (.bool true) ∧ Below w.heap.size w w' := by
  obtain ⟨a, rfl, ha, ia⟩ := came_list hn F
  exact Heads_any a A c k w ha hc ia
end Go.Proofs.Ytoologbaoifheaa.Hand
