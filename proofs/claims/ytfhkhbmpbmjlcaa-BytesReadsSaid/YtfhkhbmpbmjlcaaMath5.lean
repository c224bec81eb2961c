/- The plain laws of layer 2: coded numbers that are read. -/
import Derived.Test.YtfhkhbmpbmjlcaaMath4
namespace Go.Proofs.Ytfhkhbmpbmjlcaa.Math
open Go.RowKit Go.Proofs.Ytfhkhbmpbmjlcaa.Q Go.Proofs.YtfhkhbmpbmjlcaaW.PrintWords Go.Proofs.YtfhkhbmpbmjlcaaW.PrintLast Go.Proofs.YtfhkhbmpbmjlcaaW.PrintMore
set_option linter.unusedVariables false
set_option linter.unusedSimpArgs false
/-- How many ones a byte begins with. -/
def lead (c : Int) : Int := if c < 128 then 0 else if c < 192 then 1 else if c < 224 then 2 else if c < 240 then 3 else if c < 248 then 4 else if c < 252 then 5 else if c < 254 then 6 else if c < 255 then 7 else 8
def lead0 (c : Int) : Int := if c < 192 then 0 else if c < 224 then c - 192 else if c < 240 then c - 224 else if c < 248 then c - 240 else if c < 252 then c - 248 else if c < 254 then c - 252 else 0
theorem lead_fin : ∀ c : Fin 256, bits_LeadingZeros8.f (Go.bits .xor .u8 255 (c.val : Int)) = some (lead c.val) := by decide +kernel
theorem mask_fin : ∀ c : Fin 256, 192 ≤ c.val → c.val < 255 → Go.bits .and .i64 (wrap64 (c.val : Int)) (shr .i64 127 (lead c.val)) = lead0 c.val := by decide +kernel
theorem one_fin : ∀ c : Fin 256, ∀ i : Fin 8, (i.val : Int) ≤ lead c.val → (decide (Go.bits .and .i64 (wrap64 (c.val : Int)) (shr .i64 128 (IntKind.u64.wrap (i.val : Int))) = 0) = decide ((i.val : Int) = lead c.val)) := by decide +kernel
theorem fin_of {c : Int} (h : 0 ≤ c ∧ c ≤ 255) : ∃ f : Fin 256, c = (f.val : Int) := ⟨⟨c.toNat, by omega⟩, by simp; omega⟩
theorem lead_ok {c : Int} (h : 0 ≤ c ∧ c ≤ 255) : bits_LeadingZeros8.f (Go.bits .xor .u8 255 c) = some (lead c) := by
  obtain ⟨f, rfl⟩ := fin_of h
  exact lead_fin f
theorem mask_ok {c : Int} (h : 192 ≤ c ∧ c < 255) : Go.bits .and .i64 (wrap64 c) (shr .i64 127 (lead c)) = lead0 c := by
  obtain ⟨f, rfl⟩ := fin_of (c := c) (by omega)
  exact mask_fin f (by omega) (by omega)
/-- The rest of a coded number: so many bytes more. -/
def unL (s : ByteArray) (k : Int) : Nat → Nat → Int → Int × Int × Int
  | 0, i, n => if wideN n = k then (n, k, 0) else (0, 0, 2)
  | d + 1, i, n => if i = s.size then (0, 0, 10) else if bt s (i : Nat) / 64 = 2 then unL s k d (i + 1) (n * 64 + bt s (i : Nat) % 64) else (0, 0, 2)
def unR (s : ByteArray) : Int × Int × Int :=
  if s.size = 0 then (0, 0, 10) else if bt s 0 < 128 then (bt s 0, 1, 0) else if bt s 0 < 192 ∨ bt s 0 = 255 then (0, 0, 2) else unL s (lead (bt s 0)) (lead (bt s 0) - 1).toNat 1 (lead0 (bt s 0))
theorem or_i64 (x y : Int) (h0 : 0 ≤ x) (h1 : x < 1073741824) (h2 : 0 ≤ y) (h3 : y < 64) : Go.bits .or .i64 (x * 64) y = x * 64 + y :=
  bits_join .i64 63 (by decide) (fun n h0 h1 => by rw [IntKind.wrap_i64]; omega) 6 _ _ (by omega) (by simp) (by simp; omega) h2 (by simpa using h3) (by simp; omega)
/-- What a number is below, where so many bytes are still to come. -/
theorem pow_bound (d : Nat) (h : d ≤ 6) : (2 : Int) ^ (36 - 6 * (d + 1) + 6) = 2 ^ (36 - 6 * d) ∨ d = 6 := by
  by_cases c : d = 6
  · exact .inr c
  · left; congr 1; omega
theorem Uncoded_l0 (s : ByteArray) (hs : s.size ≤ 140737488355328) (c : Int) (d : Nat) : ∀ (i : Nat) (n : Int), 1 ≤ i → i ≤ s.size → c - 1 = ((i - 1 + d : Nat) : Int) → c ≤ 8 → d ≤ 6 → 0 ≤ n → n < 2 ^ (36 - 6 * d) →
    Ev (fun k => bytes_Uncoded.l0 k s c n (c - 1) ((i - 1 : Nat) : Int)) (unL s c d i n) := by
  induction d with
  | zero =>
    intro i n h1 hi h2 h8 h3 h4 h5
    refine Ev.step (fun k => bytes_Uncoded.l0.eq_2 _ _ _ _ _ _) ?_
    have q1 : ¬ ((i - 1 : Nat) : Int) < c - 1 := by omega
    simp only [if_neg q1]
    refine Ev.bind (wide_ev n h4 (by simpa using h5)) ?_
    unfold unL
    by_cases e : wideN n = c
    · rw [if_pos e, if_pos e]; exact Ev.now _
    · rw [if_neg e, if_neg e]; exact Ev.now _
  | succ d ih =>
    intro i n h1 hi h2 h8 h3 h4 h5
    refine Ev.step (fun k => bytes_Uncoded.l0.eq_2 _ _ _ _ _ _) ?_
    have q1 : ((i - 1 : Nat) : Int) < c - 1 := by omega
    have q2 : wrap64 (((i - 1 : Nat) : Int) + 1) = (i : Int) := by unfold wrap64; omega
    have hb := bt_range s (i : Nat)
    have hn : n < 1073741824 := by
      have : (2 : Int) ^ (36 - 6 * (d + 1)) ≤ 2 ^ 30 := by
        have : (2 : Nat) ^ (36 - 6 * (d + 1)) ≤ 2 ^ 30 := Nat.pow_le_pow_right (by omega) (by omega)
        have := Int.ofNat_le.2 this
        simpa using this
      have e30 : (2 : Int) ^ 30 = 1073741824 := by decide
      omega
    have hp : (2 : Int) ^ (36 - 6 * d) = 2 ^ (36 - 6 * (d + 1)) * 64 := by
      rw [show 36 - 6 * d = (36 - 6 * (d + 1)) + 6 by omega, Int.pow_add]
      rfl
    simp only [if_pos q1, q2]
    unfold unL
    by_cases c1 : i = s.size
    · have c1' : (i : Int) = (s.size : Int) := by omega
      rw [if_pos c1]
      simp only [if_pos c1']
      exact Ev.now _
    · have c1' : ¬ (i : Int) = (s.size : Int) := by omega
      have c2 : (0 : Int) ≤ (i : Int) := by omega
      have c3 : (i : Int) < (s.size : Int) := by omega
      rw [if_neg c1]
      simp only [if_neg c1', if_pos c2, if_pos c3]
      by_cases c4 : bt s (i : Nat) / 64 = 2
      · have e1 : Go.bits .or .i64 (wrap64 (n * 64)) (wrap64 (Go.bits .and .u8 (bt s (i : Nat)) 63)) = n * 64 + bt s (i : Nat) % 64 := by
          rw [u8_and63 (x := bt s (i : Nat)) (by omega) (by omega), show wrap64 (n * 64) = n * 64 by unfold wrap64; omega, show wrap64 (bt s (i : Nat) % 64) = bt s (i : Nat) % 64 by unfold wrap64; omega]
          exact or_i64 n _ h4 hn (by omega) (by omega)
        rw [if_pos c4]
        simp only [if_pos c4, e1]
        have := ih (i + 1) (n * 64 + bt s (i : Nat) % 64) (by omega) (by omega) (by omega) h8 (by omega) (by omega) (by omega)
        exact this
      · rw [if_neg c4]
        simp only [if_neg c4]
        exact Ev.now _
theorem UncodedR_l1 (s : ByteArray) (hs : s.size ≤ 140737488355328) (c : Int) (d : Nat) : ∀ (i : Nat) (n : Int), 1 ≤ i → i ≤ s.size → c - 1 = ((i - 1 + d : Nat) : Int) → c ≤ 8 → d ≤ 6 → 0 ≤ n → n < 2 ^ (36 - 6 * d) →
    Ev (fun k => lacquerref02_Uncoded.l1 k s c n (i : Int)) (unL s c d i n) := by
  induction d with
  | zero =>
    intro i n h1 hi h2 h8 h3 h4 h5
    refine Ev.step (fun k => lacquerref02_Uncoded.l1.eq_2 _ _ _ _ _) ?_
    have q1 : ¬ (i : Int) < c := by omega
    simp only [if_neg q1]
    refine Ev.bind (CodedR_ev n) ?_
    have hc : codF n = (strOfNums (codR n), 0) := by unfold codF; rw [if_pos ⟨h4, by simpa using h5⟩]
    rw [hc]
    simp only [if_true, strOfNums_size, codR_length]
    unfold unL
    by_cases e : wideN n = c
    · rw [if_pos e, if_pos e]; exact Ev.now _
    · rw [if_neg e, if_neg e]; exact Ev.now _
  | succ d ih =>
    intro i n h1 hi h2 h8 h3 h4 h5
    refine Ev.step (fun k => lacquerref02_Uncoded.l1.eq_2 _ _ _ _ _) ?_
    have q1 : (i : Int) < c := by omega
    have hb := bt_range s (i : Nat)
    have hn : n < 1073741824 := by
      have : (2 : Int) ^ (36 - 6 * (d + 1)) ≤ 2 ^ 30 := by
        have : (2 : Nat) ^ (36 - 6 * (d + 1)) ≤ 2 ^ 30 := Nat.pow_le_pow_right (by omega) (by omega)
        have := Int.ofNat_le.2 this
        simpa using this
      have e30 : (2 : Int) ^ 30 = 1073741824 := by decide
      omega
    have hp : (2 : Int) ^ (36 - 6 * d) = 2 ^ (36 - 6 * (d + 1)) * 64 := by
      rw [show 36 - 6 * d = (36 - 6 * (d + 1)) + 6 by omega, Int.pow_add]
      rfl
    simp only [if_pos q1]
    unfold unL
    by_cases c1 : i = s.size
    · have c1' : (i : Int) ≥ (s.size : Int) := by omega
      rw [if_pos c1]
      simp only [if_pos c1']
      exact Ev.now _
    · have c1' : ¬ (i : Int) ≥ (s.size : Int) := by omega
      have c2 : (0 : Int) ≤ (i : Int) := by omega
      have c3 : (i : Int) < (s.size : Int) := by omega
      rw [if_neg c1]
      simp only [if_neg c1', if_pos c2, if_pos c3]
      by_cases c4 : bt s (i : Nat) / 64 = 2
      · have d1 : ¬ bt s (i : Nat) < 128 := by omega
        have d2 : ¬ bt s (i : Nat) ≥ 192 := by omega
        have e1 : wrap64 (wrap64 (wrap64 (n * 64) + wrap64 (bt s (i : Nat))) - 128) = n * 64 + bt s (i : Nat) % 64 := by
          unfold wrap64
          omega
        rw [if_pos c4]
        simp only [if_neg d1, if_neg d2, e1, show wrap64 ((i : Int) + 1) = ((i + 1 : Nat) : Int) by unfold wrap64; omega]
        exact ih (i + 1) (n * 64 + bt s (i : Nat) % 64) (by omega) (by omega) (by omega) h8 (by omega) (by omega) (by omega)
      · rw [if_neg c4]
        by_cases d1 : bt s (i : Nat) < 128
        · simp only [if_pos d1]
          exact Ev.now _
        · have d2 : bt s (i : Nat) ≥ 192 := by omega
          simp only [if_neg d1, if_pos d2]
          exact Ev.now _
theorem lead_cases {c : Int} (h : 192 ≤ c ∧ c < 255) : ∃ d : Nat, lead c = (d : Int) + 2 ∧ d ≤ 5 ∧ 0 ≤ lead0 c ∧ lead0 c < 2 ^ (36 - 6 * (d + 1)) := by
  unfold lead lead0
  by_cases c1 : c < 224
  · exact ⟨0, by simp [show ¬ c < 128 by omega, show ¬ c < 192 by omega, c1], by omega, by simp [show ¬ c < 192 by omega, c1]; omega, by simp [show ¬ c < 192 by omega, c1]; omega⟩
  by_cases c2 : c < 240
  · exact ⟨1, by simp [show ¬ c < 128 by omega, show ¬ c < 192 by omega, c1, c2], by omega, by simp [show ¬ c < 192 by omega, c1, c2]; omega, by simp [show ¬ c < 192 by omega, c1, c2]; omega⟩
  by_cases c3 : c < 248
  · exact ⟨2, by simp [show ¬ c < 128 by omega, show ¬ c < 192 by omega, c1, c2, c3], by omega, by simp [show ¬ c < 192 by omega, c1, c2, c3]; omega, by simp [show ¬ c < 192 by omega, c1, c2, c3]; omega⟩
  by_cases c4 : c < 252
  · exact ⟨3, by simp [show ¬ c < 128 by omega, show ¬ c < 192 by omega, c1, c2, c3, c4], by omega, by simp [show ¬ c < 192 by omega, c1, c2, c3, c4]; omega, by simp [show ¬ c < 192 by omega, c1, c2, c3, c4]; omega⟩
  by_cases c5 : c < 254
  · exact ⟨4, by simp [show ¬ c < 128 by omega, show ¬ c < 192 by omega, c1, c2, c3, c4, c5], by omega, by simp [show ¬ c < 192 by omega, c1, c2, c3, c4, c5]; omega, by simp [show ¬ c < 192 by omega, c1, c2, c3, c4, c5]; omega⟩
  · exact ⟨5, by simp [show ¬ c < 128 by omega, show ¬ c < 192 by omega, c1, c2, c3, c4, c5, show c < 255 by omega], by omega, by simp [show ¬ c < 192 by omega, c1, c2, c3, c4, c5], by simp [show ¬ c < 192 by omega, c1, c2, c3, c4, c5]⟩
theorem empty_iff (s : ByteArray) : s.toList = ([] : List UInt8) ↔ s.size = 0 := by
  rw [toList_data]
  constructor
  · intro h
    show s.data.size = 0
    rw [← Array.length_toList, h]
    rfl
  · intro h
    exact List.eq_nil_of_length_eq_zero (by rw [Array.length_toList]; exact h)
theorem Uncoded_ev (s : ByteArray) (hs : s.size ≤ 140737488355328) : Ev (fun k => bytes_Uncoded.f k s) (unR s) := by
  have hb := bt_range s 0
  unfold bytes_Uncoded.f unR
  by_cases h0 : s.size = 0
  · have := (empty_iff s).2 h0
    rw [if_pos h0]
    simp only [if_pos this]
    exact Ev.now _
  · have h0' : ¬ s.toList = ([] : List UInt8) := fun h => h0 ((empty_iff s).1 h)
    have h1 : 0 < (s.size : Int) := by omega
    rw [if_neg h0]
    simp only [if_neg h0', if_pos h1, lead_ok hb, Option.bind_some]
    by_cases c1 : bt s 0 < 128
    · have : lead (bt s 0) = 0 := by unfold lead; rw [if_pos c1]
      rw [if_pos c1]
      simp only [if_pos this, show wrap64 (bt s 0) = bt s 0 by unfold wrap64; omega]
      exact Ev.now _
    rw [if_neg c1]
    have n0 : ¬ lead (bt s 0) = 0 := by unfold lead; rw [if_neg c1]; repeat' split
                                        all_goals omega
    simp only [if_neg n0]
    by_cases c2 : bt s 0 < 192
    · have : lead (bt s 0) = 1 := by unfold lead; rw [if_neg c1, if_pos c2]
      rw [if_pos (.inl c2)]
      simp only [if_pos this]
      exact Ev.now _
    by_cases c3 : bt s 0 = 255
    · have e8 : lead (bt s 0) = 8 := by rw [c3]; decide
      have n1 : ¬ lead (bt s 0) = 1 := by omega
      rw [if_pos (.inr c3)]
      simp only [if_neg n1, if_pos e8]
      exact Ev.now _
    obtain ⟨d, e1, e2, e3, e4⟩ := lead_cases (c := bt s 0) (by omega)
    have n1 : ¬ lead (bt s 0) = 1 := by omega
    have n8 : ¬ lead (bt s 0) = 8 := by omega
    have p0 : 0 ≤ lead (bt s 0) := by omega
    rw [if_neg (by omega)]
    simp only [if_neg n1, if_neg n8, if_pos p0, mask_ok (c := bt s 0) (by omega), show wrap64 (lead (bt s 0) - 1) = lead (bt s 0) - 1 by unfold wrap64; omega]
    rw [show (lead (bt s 0) - 1).toNat = d + 1 by omega]
    exact Uncoded_l0 s hs (lead (bt s 0)) (d + 1) 1 _ (by omega) (by omega) (by omega) (by omega) (by omega) e3 e4
theorem UncodedR_l0 (s : ByteArray) (c : Int) (hc : 0 ≤ c ∧ c ≤ 255) (r : Int × Int × Int) (hr : Ev (fun k => lacquerref02_Uncoded.j1 k s (wrap64 c) (lead c)) r) (d : Nat) : ∀ i : Nat, lead c = ((i + d : Nat) : Int) →
    Ev (fun k => lacquerref02_Uncoded.l0 k s (wrap64 c) (i : Int)) r := by
  have h8 : lead c ≤ 8 := by unfold lead; repeat' split
                             all_goals omega
  obtain ⟨f, rfl⟩ := fin_of hc
  induction d with
  | zero =>
    intro i hi
    refine Ev.step (fun k => lacquerref02_Uncoded.l0.eq_2 _ _ _ _) ?_
    rw [hi] at hr
    by_cases c8 : i < 8
    · have q1 : (i : Int) < 8 := by omega
      have q2 : (0 : Int) ≤ IntKind.u64.wrap (i : Int) := by simp only [IntKind.wrap, IntKind.bits, IntKind.signed]; simp; omega
      have q3 : Go.bits .and .i64 (wrap64 (f.val : Int)) (shr .i64 128 (IntKind.u64.wrap (i : Int))) = 0 := by
        have := one_fin f ⟨i, c8⟩ (by simp; omega)
        rw [decide_eq_true (show ((⟨i, c8⟩ : Fin 8).val : Int) = lead f.val by simp; omega)] at this
        exact of_decide_eq_true this
      simp only [if_pos q1, if_pos q2, if_pos q3]
      exact hr
    · have q1 : ¬ (i : Int) < 8 := by omega
      simp only [if_neg q1]
      exact hr
  | succ d ih =>
    intro i hi
    refine Ev.step (fun k => lacquerref02_Uncoded.l0.eq_2 _ _ _ _) ?_
    have c8 : i < 8 := by omega
    have q1 : (i : Int) < 8 := by omega
    have q2 : (0 : Int) ≤ IntKind.u64.wrap (i : Int) := by simp only [IntKind.wrap, IntKind.bits, IntKind.signed]; simp; omega
    have q3 : ¬ Go.bits .and .i64 (wrap64 (f.val : Int)) (shr .i64 128 (IntKind.u64.wrap (i : Int))) = 0 := by
      have := one_fin f ⟨i, c8⟩ (by simp; omega)
      rw [decide_eq_false (show ¬ ((⟨i, c8⟩ : Fin 8).val : Int) = lead f.val by simp; omega)] at this
      exact of_decide_eq_false this
    simp only [if_pos q1, if_pos q2, if_neg q3, show wrap64 ((i : Int) + 1) = ((i + 1 : Nat) : Int) by unfold wrap64; omega]
    exact ih (i + 1) (by omega)
theorem UncodedR_ev (s : ByteArray) (hs : s.size ≤ 140737488355328) : Ev (fun k => lacquerref02_Uncoded.f k s) (unR s) := by
  have hb := bt_range s 0
  have ew : wrap64 (bt s 0) = bt s 0 := by unfold wrap64; omega
  unfold lacquerref02_Uncoded.f unR
  by_cases h0 : s.size = 0
  · have := (empty_iff s).2 h0
    rw [if_pos h0]
    simp only [if_pos this]
    exact Ev.now _
  · have h0' : ¬ s.toList = ([] : List UInt8) := fun h => h0 ((empty_iff s).1 h)
    have h1 : 0 < (s.size : Int) := by omega
    rw [if_neg h0]
    simp only [if_neg h0', if_pos h1]
    by_cases c1 : bt s 0 < 128
    · have c1' : wrap64 (bt s 0) < 128 := by omega
      rw [if_pos c1]
      simp only [ew, if_pos c1]
      exact Ev.now _
    rw [if_neg c1]
    have c1' : ¬ wrap64 (bt s 0) < 128 := by omega
    simp only [if_neg c1']
    obtain ⟨m, hm⟩ : ∃ m : Nat, lead (bt s 0) = (m : Int) := ⟨(lead (bt s 0)).toNat, by
      have : 0 ≤ lead (bt s 0) := by unfold lead; repeat' split
                                     all_goals omega
      omega⟩
    refine UncodedR_l0 s (bt s 0) hb _ ?_ m 0 (by omega)
    refine Ev.step (fun k => lacquerref02_Uncoded.j1.eq_2 _ _ _ _) ?_
    by_cases c2 : bt s 0 < 192
    · have : lead (bt s 0) = 1 := by unfold lead; rw [if_neg c1, if_pos c2]
      rw [if_pos (.inl c2)]
      simp only [if_pos this]
      exact Ev.step (fun k => lacquerref02_Uncoded.j2.eq_2 _ _ _ _ _) (by simp only [if_true]; exact Ev.now _)
    have n1 : ¬ lead (bt s 0) = 1 := by
      unfold lead; rw [if_neg c1, if_neg c2]; repeat' split
      all_goals omega
    simp only [if_neg n1]
    by_cases c3 : bt s 0 = 255
    · have e8 : lead (bt s 0) = 8 := by rw [c3]; decide
      rw [if_pos (.inr c3), e8]
      exact Ev.step (fun k => lacquerref02_Uncoded.j2.eq_2 _ _ _ _ _) (by simp; exact Ev.now _)
    obtain ⟨d, e1, e2, e3, e4⟩ := lead_cases (c := bt s 0) (by omega)
    have n8 : (lead (bt s 0) == 8) = false := beq_eq_false_iff_ne.2 (by omega)
    rw [if_neg (by omega)]
    simp only [n8]
    refine Ev.step (fun k => lacquerref02_Uncoded.j2.eq_2 _ _ _ _ _) ?_
    have q2 : IntKind.u64.wrap (lead (bt s 0)) = lead (bt s 0) := by simp only [IntKind.wrap, IntKind.bits, IntKind.signed]; simp; omega
    have p0 : 0 ≤ lead (bt s 0) := by omega
    simp only [Bool.false_eq_true, if_false, q2, if_pos p0, mask_ok (c := bt s 0) (by omega)]
    rw [show (lead (bt s 0) - 1).toNat = d + 1 by omega]
    exact UncodedR_l1 s hs (lead (bt s 0)) (d + 1) 1 _ (by omega) (by omega) (by omega) (by omega) (by omega) e3 e4
end Go.Proofs.Ytfhkhbmpbmjlcaa.Math
