/- Contracts of layer 1, proved by hand: BitsRice. -/
import Derived.Test.YtlgkaegcocfhdaaHandM
namespace Go.Proofs.Ytlgkaegcocfhdaa.Hand
open Go.RowKit Go.Proofs.Ytlgkaegcocfhdaa.Q Go.Proofs.YtlgkaegcocfhdaaW.PrintWords Go.Proofs.YtlgkaegcocfhdaaW.PrintLast Go.Proofs.YtlgkaegcocfhdaaW.PrintMore
set_option linter.unusedVariables false
set_option linter.unusedSimpArgs false

theorem riceB_length (n : Int) (K : Nat) : (riceB n K).length = foldN n / 2 ^ K + 1 + K := by
  unfold riceB
  rw [List.length_append, List.length_replicate, List.length_cons, nbits_length]
  omega
set_option maxHeartbeats 8000000 in
set_option maxRecDepth 100000 in
theorem RiceLaw_no (n k : Int) (h0 : -9223372036854775808 ≤ n) (h1 : n ≤ 9223372036854775807) (h : ¬ riceP n k) (w : World) :
    Calls Try.prog 3 #[.int .i64 n, .int .i64 k] w fun e w' => e = .returned (.bool true) ∧ Below w.heap.size w w' := by
  have hup := Try.underlying22
  have hli : lightP 3 k n := by
    unfold lightP
    unfold riceP at h
    generalize foldN n / 2 ^ k.toNat = q at h ⊢
    omega
  have HL := Aside0.mk (light_any 3 k n 0 h0 h1)
  rw [decide_eq_true hli] at HL
  clear hli
  have HF := Aside0.mk (Fold_any n h0 h1)
  have HRN := Aside0.mk (Rice_no n k h0 h1 h w.heap.size)
  have hk : decide (k < 0) = true ∨ (decide (k < 0) = false ∧ decide (30 < k) = true) ∨ ∃ K q : Nat, k = (K : Int) ∧ (K : Int) ≤ 30 ∧ (foldN n : Int) / 2 ^ K = (q : Int) ∧ (16777216 : Int) < (q : Int) := by
    by_cases a : k < 0
    · exact .inl (decide_eq_true a)
    · by_cases b : 30 < k
      · exact .inr (.inl ⟨decide_eq_false a, decide_eq_true b⟩)
      · refine .inr (.inr ⟨k.toNat, foldN n / 2 ^ k.toNat, by omega, by omega, by simp, ?_⟩)
        have : ¬ foldN n / 2 ^ k.toNat ≤ 16777216 := fun c => h ⟨by omega, by omega, c⟩
        omega
  clear h
  have HE := Aside0.mk (new_at w w.heap.size (Nat.le_refl _))
  have HB := Aside0.mk ((Below.refl w.heap.size w).alloc (Nat.le_refl _) (.cells #[.int .i64 0, .slice none 0 0] 66))
  have HNW := Aside0.mk (New_any w)
  rcases hk with hk | ⟨hk, hk2⟩ | ⟨K, q, rfl, hK, hq, hq2⟩
  · go_enter Try.func3, Try.ntmps3
    go_wp2_with fail
    refine HNW.out.mono ?_
    rintro e w1 ⟨rfl, rfl⟩
    go_wp2_with fail
    refine (HL.out _).mono ?_
    rintro e w2 ⟨rfl, hb2⟩
    have HB2 := Aside0.mk (HB.out.trans (hb2.mono HB.out.size))
    have HE2 := Aside0.mk (HE.out.below hb2)
    clear hb2
    go_wp2_with fail
    refine (HRN.out _).mono ?_
    rintro e w3 ⟨rfl, hd⟩
    have HB3 := Aside0.mk (below_drawn HB2.out hd)
    have HE3 := Aside0.mk (HE2.out.drawn hd)
    clear hd
    go_wp2_with fail
    refine (Len_any _ _ _ _ _ HE3.out).mono ?_
    rintro e w4 ⟨rfl, rfl⟩
    go_wp2_with fail
    refine (awake_any _).mono ?_
    rintro e w4 ⟨rfl, hb4⟩
    have HB4 := Aside0.mk (HB3.out.trans (hb4.mono HB3.out.size))
    clear hb4
    go_wp2
    go_ret
    exact ⟨rfl, HB4.out⟩
  · go_enter Try.func3, Try.ntmps3
    go_wp2_with fail
    refine HNW.out.mono ?_
    rintro e w1 ⟨rfl, rfl⟩
    go_wp2_with fail
    refine (HL.out _).mono ?_
    rintro e w2 ⟨rfl, hb2⟩
    have HB2 := Aside0.mk (HB.out.trans (hb2.mono HB.out.size))
    have HE2 := Aside0.mk (HE.out.below hb2)
    clear hb2
    go_wp2_with fail
    refine (HRN.out _).mono ?_
    rintro e w3 ⟨rfl, hd⟩
    have HB3 := Aside0.mk (below_drawn HB2.out hd)
    have HE3 := Aside0.mk (HE2.out.drawn hd)
    clear hd
    go_wp2_with fail
    refine (Len_any _ _ _ _ _ HE3.out).mono ?_
    rintro e w4 ⟨rfl, rfl⟩
    go_wp2_with fail
    refine (awake_any _).mono ?_
    rintro e w4 ⟨rfl, hb4⟩
    have HB4 := Aside0.mk (HB3.out.trans (hb4.mono HB3.out.size))
    clear hb4
    go_wp2
    go_ret
    exact ⟨rfl, HB4.out⟩
  · have b0 : decide ((K : Int) < 0) = false := decide_eq_false (by omega)
    have b1 : decide (30 < (K : Int)) = false := decide_eq_false (by omega)
    have hK0 : (0 : Int) ≤ (K : Int) := by omega
    go_enter Try.func3, Try.ntmps3
    go_wp2_with fail
    refine HNW.out.mono ?_
    rintro e w1 ⟨rfl, rfl⟩
    go_wp2_with fail
    refine (HL.out _).mono ?_
    rintro e w2 ⟨rfl, hb2⟩
    have HB2 := Aside0.mk (HB.out.trans (hb2.mono HB.out.size))
    have HE2 := Aside0.mk (HE.out.below hb2)
    clear hb2
    go_wp2_with fail
    refine (HRN.out _).mono ?_
    rintro e w3 ⟨rfl, hd⟩
    have HB3 := Aside0.mk (below_drawn HB2.out hd)
    have HE3 := Aside0.mk (HE2.out.drawn hd)
    clear hd
    go_wp2_with fail
    refine (HF.out _).mono ?_
    rintro e w4 ⟨rfl, hd⟩
    have HB4 := Aside0.mk (below_drawn HB3.out hd)
    have HE4 := Aside0.mk (HE3.out.drawn hd)
    clear hd
    go_wp2_with fail
    refine (Len_any _ _ _ _ _ HE4.out).mono ?_
    rintro e w5 ⟨rfl, rfl⟩
    go_wp2_with fail
    refine (awake_any _).mono ?_
    rintro e w5 ⟨rfl, hb5⟩
    have HB5 := Aside0.mk (HB4.out.trans (hb5.mono HB4.out.size))
    clear hb5
    go_wp2
    go_ret
    exact ⟨rfl, HB5.out⟩
set_option maxHeartbeats 8000000 in
set_option maxRecDepth 100000 in
theorem RiceLaw_dark (n k : Int) (h0 : -9223372036854775808 ≤ n) (h1 : n ≤ 9223372036854775807) (h : ¬ lightP 3 k n) (w : World) :
    Calls Try.prog 3 #[.int .i64 n, .int .i64 k] w fun e w' => e = .returned (.bool true) ∧ Below w.heap.size w w' := by
  have hup := Try.underlying22
  have HL := Aside0.mk (light_any 3 k n 0 h0 h1)
  rw [decide_eq_false h] at HL
  have HB := Aside0.mk ((Below.refl w.heap.size w).alloc (Nat.le_refl _) (.cells #[.int .i64 0, .slice none 0 0] 66))
  have HNW := Aside0.mk (New_any w)
  clear h
  go_enter Try.func3, Try.ntmps3
  go_wp2_with fail
  refine HNW.out.mono ?_
  rintro e w1 ⟨rfl, rfl⟩
  go_wp2_with fail
  refine (HL.out _).mono ?_
  rintro e w2 ⟨rfl, hb2⟩
  have HB2 := Aside0.mk (HB.out.trans (hb2.mono HB.out.size))
  clear hb2
  go_wp2_with fail
  refine (awake_any _).mono ?_
  rintro e w4 ⟨rfl, hb4⟩
  have HB4 := Aside0.mk (HB2.out.trans (hb4.mono HB2.out.size))
  clear hb4
  go_wp2
  go_ret
  exact ⟨rfl, HB4.out⟩
set_option maxHeartbeats 8000000 in
set_option maxRecDepth 100000 in
theorem RiceLaw_yes (n : Int) (K : Nat) (h0 : -9223372036854775808 ≤ n) (h1 : n ≤ 9223372036854775807) (hK : (K : Int) ≤ 30) (hq0 : foldN n / 2 ^ K < 4000) (w : World) :
    Calls Try.prog 3 #[.int .i64 n, .int .i64 K] w fun e w' => e = .returned (.bool true) ∧ Below w.heap.size w w' := by
  have hup := Try.underlying22
  have hli : lightP 3 K n := .inr (.inr ⟨rfl, .inr (.inr (.inl hq0))⟩)
  have HL := Aside0.mk (light_any 3 K n 0 h0 h1)
  rw [decide_eq_true hli] at HL
  clear hli
  have HF := Aside0.mk (Fold_any n h0 h1)
  have HRC := Aside0.mk (fun (v : Value) (W : World) (hE : WAt W w.heap.size w.heap.size v []) => Rice_yes n K h0 h1 ⟨by omega, hK, by rw [Int.toNat_natCast]; omega⟩ [] w.heap.size w.heap.size v W hE (by decide))
  have HLB := Aside0.mk (riceB_length n K)
  have hq : (foldN n : Int) / 2 ^ K = ((foldN n / 2 ^ K : Nat) : Int) := by simp
  have HE := Aside0.mk (new_at w w.heap.size (Nat.le_refl _))
  have HB := Aside0.mk ((Below.refl w.heap.size w).alloc (Nat.le_refl _) (.cells #[.int .i64 0, .slice none 0 0] 66))
  have HNW := Aside0.mk (New_any w)
  generalize foldN n / 2 ^ K = q at hq0 HLB hq
  have b0 : decide ((K : Int) < 0) = false := decide_eq_false (by omega)
  have b1 : decide (30 < (K : Int)) = false := decide_eq_false (by omega)
  have b2 : (q : Int) < 4000 := by omega
  have hK0 : (0 : Int) ≤ (K : Int) := by omega
  go_enter Try.func3, Try.ntmps3
  go_wp2_with fail
  refine HNW.out.mono ?_
  rintro e w1 ⟨rfl, rfl⟩
  go_wp2_with fail
  refine (HL.out _).mono ?_
  rintro e w2 ⟨rfl, hb2⟩
  have HB2 := Aside0.mk (HB.out.trans (hb2.mono HB.out.size))
  have HE2 := Aside0.mk (HE.out.below hb2)
  clear hb2
  go_wp2_with fail
  refine (HRC.out _ _ HE2.out).mono ?_
  rintro e w3 ⟨rfl, v3, hE3, hM3⟩
  have HB3 := Aside0.mk (HB2.out.trans hM3.below)
  rw [List.nil_append] at hE3
  have HE3 := Aside0.mk hE3
  clear hE3 hM3
  go_wp2_with fail
  refine (HF.out _).mono ?_
  rintro e w4 ⟨rfl, hd⟩
  have HB4 := Aside0.mk (below_drawn HB3.out hd)
  have HE4 := Aside0.mk (HE3.out.drawn hd)
  clear hd
  go_wp2_with fail
  refine (Len_any _ _ _ _ _ HE4.out).mono ?_
  rintro e w5 ⟨rfl, rfl⟩
  rw [HLB.out]
  go_wp2_with fail
  refine (HF.out _).mono ?_
  rintro e w5 ⟨rfl, hd⟩
  have HB5 := Aside0.mk (below_drawn HB4.out hd)
  clear hd
  have hs : ((q + 1 + K : Nat) : Int) = (q : Int) + 1 + (K : Int) := by omega
  go_wp2_with fail
  refine (awake_any _).mono ?_
  rintro e w6 ⟨rfl, hb6⟩
  have HB6 := Aside0.mk (HB5.out.trans (hb6.mono HB5.out.size))
  clear hb6
  go_wp2
  go_ret
  exact ⟨rfl, HB6.out⟩
theorem RiceLaw_any (n k : Int) (h0 : -9223372036854775808 ≤ n) (h1 : n ≤ 9223372036854775807) (w : World) :
    Calls Try.prog 3 #[.int .i64 n, .int .i64 k] w fun e w' => e = .returned (.bool true) ∧ Below w.heap.size w w' := by
  by_cases h : riceP n k
  · obtain ⟨a, b, c⟩ := h
    obtain ⟨K, rfl⟩ : ∃ K : Nat, k = (K : Int) := ⟨k.toNat, by omega⟩
    rw [Int.toNat_natCast] at c
    by_cases d : foldN n / 2 ^ K < 4000
    · exact RiceLaw_yes n K h0 h1 b d w
    · refine RiceLaw_dark n K h0 h1 (fun e => ?_) w
      unfold lightP at e
      rw [Int.toNat_natCast] at e
      generalize foldN n / 2 ^ K = q at c d e
      omega
  · exact RiceLaw_no n k h0 h1 h w
end Go.Proofs.Ytlgkaegcocfhdaa.Hand
