/- Printed by a program of ours (pp.sh), partly over contracts proved by hand. -/
import Derived.Test.YtfhkhbmpbmjlcaaQx0
import Derived.Test.YtfhkhbmpbmjlcaaQx1
import Derived.Test.YtfhkhbmpbmjlcaaQx3
namespace Go.Proofs.Ytfhkhbmpbmjlcaa.Q
open Go.RowKit Go.Proofs.YtfhkhbmpbmjlcaaW.PrintWords Go.Proofs.YtfhkhbmpbmjlcaaW.PrintLast Go.Proofs.YtfhkhbmpbmjlcaaW.PrintMore
attribute [local go_sem high] Go.Proofs.Ytfhkhbmpbmjlcaa.Hand.xor_u8
attribute [local go_sem] max2_int min2_int max_two min_two max_three min_three max_four min_four   -- for this text's walks alone
set_option linter.unusedVariables false
set_option linter.unusedSimpArgs false

/-! ### lacquerref02_Rate: function 16 -/
/-- A number's eight bytes, the highest first, behind a text. -/
def rateTail (u : Int) : Nat → List Int
  | 0 => []
  | m + 1 => (u / 2 ^ (8 * m)) % 256 :: rateTail u m
def lacquerref02_Rate.f (k : Nat) (a0 : Int) : Option (ByteArray × Int) :=
  if 1 ≤ a0 ∧ a0 ≤ 655350 then
    (lacquerref02_Be.f k (16383 + (Nat.log2 a0.toNat : Int)) 2).bind fun t => if t.1.size ≤ 8 then some (strOfNums (bytesOf t.1 ++ rateTail (IntKind.u64.wrap (a0 * 2 ^ (63 - Nat.log2 a0.toNat))) 8), 0) else none
  else some (⟨#[]⟩, 11)
theorem lacquerref02_Rate.mono : ∀ a0 k, LeO (lacquerref02_Rate.f k a0) (lacquerref02_Rate.f (k + 1) a0) := by
  intro a0 k
  unfold lacquerref02_Rate.f
  refine LeO.ite (LeO.bind (lacquerref02_Be.mono _ _ _) (fun _ => LeO.refl _)) (LeO.refl _)
def RateRel (w : World) (s : ByteArray) (u : Int) (m : Nat) (b : Value) (wr : World) : Prop :=
  Hand.ARow wr w.heap.size b (bytesOf s ++ (rateTail u 8).take (8 - m)) ∧ Below w.heap.size w wr
theorem rateTail_snoc (U : Int) (m : Nat) (h : m < 8) : (rateTail U 8).take (8 - m) = (rateTail U 8).take (8 - (m + 1)) ++ [U / 2 ^ (8 * m) % 256] := by
  have h8 : m = 0 ∨ m = 1 ∨ m = 2 ∨ m = 3 ∨ m = 4 ∨ m = 5 ∨ m = 6 ∨ m = 7 := by omega
  rcases h8 with rfl | rfl | rfl | rfl | rfl | rfl | rfl | rfl <;> simp [rateTail]
theorem ratePow (j : Nat) (h : j ≤ 40) : wrap64 (2 ^ j) = 2 ^ j := by
  have h1 : (2 : Nat) ^ j ≤ 2 ^ 40 := Nat.pow_le_pow_right (by omega) h
  have h2 : (0 : Int) < ((2 ^ j : Nat) : Int) := by exact_mod_cast Nat.pow_pos (by omega)
  have h3 : ((2 ^ j : Nat) : Int) = (2 : Int) ^ j := by simp
  unfold wrap64
  omega
set_option maxHeartbeats 8000000 in
set_option maxRecDepth 100000 in
theorem lacquerref02_Rate.calls (k : Nat) (a0 : Int) (r1 : ByteArray) (r2 : Int) (w : World) (h : lacquerref02_Rate.f k a0 = some (r1, r2)) :
    Calls Try.prog 16 #[.int .i64 a0] w fun e w' => e = .returned (.tuple #[.string r1, .int .i64 r2]) ∧ Below w.heap.size w w' := by
  have H : Aside0 (lacquerref02_Rate.f k a0 = some (r1, r2)) := ⟨h⟩
  clear h
  by_cases h1 : a0 < 1
  · go_enter Try.func16, Try.ntmps16
    go_wp2
    go_ret2
    have h := H.out
    unfold lacquerref02_Rate.f at h
    rw [if_neg (by omega)] at h
    cases h
    exact ⟨rfl, Below.refl _ _⟩
  by_cases h2 : 655350 < a0
  · go_enter Try.func16, Try.ntmps16
    go_wp2
    go_ret2
    have h := H.out
    unfold lacquerref02_Rate.f at h
    rw [if_neg (by omega)] at h
    cases h
    exact ⟨rfl, Below.refl _ _⟩
  obtain ⟨L, hL⟩ : ∃ L, Nat.log2 a0.toNat = L := ⟨_, rfl⟩
  have hn0 : a0.toNat ≠ 0 := by omega
  have hl1 : 2 ^ L ≤ a0.toNat := by rw [← hL]; exact Nat.log2_self_le hn0
  have hl2 : a0.toNat < 2 ^ (L + 1) := by rw [← hL]; exact Nat.lt_log2_self
  have hl3 : L < 20 := by
    have : 2 ^ L < 2 ^ 20 := by omega
    exact (Nat.pow_lt_pow_iff_right (by omega)).1 this
  have HL := Aside0.mk hL
  have H1 := Aside0.mk hl1
  have H2 := Aside0.mk hl2
  clear hL hl1 hl2 hn0
  go_enter Try.func16, Try.ntmps16
  go_wp2
  go_loop [4] (fun i => ∃ j : Nat, j ≤ L ∧ i = .int .i64 j) (fun i => L - (intOf i).toNat)
  case atStart => exact ⟨0, by omega, rfl⟩
  case round =>
    obtain ⟨j, hj, rfl⟩ := hrel
    have hpw : wrap64 (2 ^ (j + 1)) = 2 ^ (j + 1) := ratePow (j + 1) (by omega)
    have HP := Aside0.mk hpw
    clear hpw
    by_cases hc : j < L
    · have hc1 : wrap64 (2 ^ (j + 1)) ≤ a0 := by
        rw [HP.out]
        have h1 := H1.out
        have h3 : 2 ^ (j + 1) ≤ 2 ^ L := Nat.pow_le_pow_right (by omega) (by omega)
        have h4 : ((2 ^ (j + 1) : Nat) : Int) ≤ a0 := by omega
        simpa using h4
      go_wp2
      go_round
      case rel => exact ⟨j + 1, by omega, by go_num⟩
      case measure => simp [intOf]; omega
    · have hc1 : a0 < wrap64 (2 ^ (j + 1)) := by
        rw [HP.out]
        have hj' : j = L := by omega
        subst hj'
        have h2 := H2.out
        have h4 : a0 < ((2 ^ (j + 1) : Nat) : Int) := by omega
        simpa using h4
      obtain rfl : j = L := by omega
      have hh := H.out
      clear H
      unfold lacquerref02_Rate.f at hh
      rw [if_pos (by omega), HL.out] at hh
      replace hh := Option.bind_eq_some_iff.mp hh
      obtain ⟨⟨b1, b2⟩, hb1, hb2⟩ := hh
      split at hb2
      case isFalse => cases hb2
      rename_i hsz
      simp only [Option.some.injEq, Prod.mk.injEq] at hb2
      obtain ⟨rfl, rfl⟩ := hb2
      have HBE := Aside0.mk hb1
      clear hb1
      have hcv := fun W : World => Lib.run_convert_string_bytes (P := Try.prog) W 9 43 5 b1 Try.underlying9 Try.underlying43 Try.underlying5
      go_wp2_with (go_at_call 11; refine (lacquerref02_Be.calls k _ _ _ _ _ HBE.out).mono ?_; rintro e w1 ⟨rfl, hb1⟩; have HB1 := Aside0.mk hb1; clear hb1)
      obtain ⟨c, hcap⟩ : ∃ c, grownCap w1 b1.size 0 5 = c := ⟨_, rfl⟩
      rw [hcap]
      have HA : Hand.ARow (Lib.bytesWorld w1 5 b1) w.heap.size (.slice (some ⟨w1.heap.size, 0, none⟩) b1.size c) (bytesOf b1) := by
        rw [← hcap]
        exact Hand.ARow.start b1 (by unfold maxLen; omega) HB1.out.size
      have HB2 : Below w.heap.size w (Lib.bytesWorld w1 5 b1) := bytes_below HB1.out HB1.out.size 5 b1
      obtain ⟨w2, hw2⟩ : ∃ w2, Lib.bytesWorld w1 5 b1 = w2 := ⟨_, rfl⟩
      obtain ⟨v2, hv2⟩ : ∃ v2, Value.slice (some ⟨w1.heap.size, 0, none⟩) b1.size c = v2 := ⟨_, rfl⟩
      rw [hw2, hv2] at HA
      rw [hw2] at HB2 ⊢
      clear hw2 hcv
      obtain ⟨U, hU⟩ : ∃ U, IntKind.u64.wrap (a0 * 2 ^ (63 - j)) = U := ⟨_, rfl⟩
      have hU0 : 0 ≤ U := by rw [← hU]; simp only [IntKind.wrap, IntKind.bits, IntKind.signed]; simp; omega
      rw [hU]
      have HU := Aside0.mk hU
      clear hU
      go_loopw [8, 9] (fun b i wr => ∃ m : Nat, m ≤ 8 ∧ i = .int .i64 ((m : Int) - 1) ∧ RateRel w b1 U m b wr) (fun _ i _ => (intOf i + 1).toNat)
      case atStart => exact ⟨8, by omega, rfl, hv2 ▸ ⟨by simpa using HA, HB2⟩⟩
      case round =>
        clear HA HB2 hv2
        obtain ⟨m, hm, rfl, hR⟩ := hrel
        have HR := Aside0.mk hR
        clear hR
        rcases m with _ | m
        · have hcv := HR.out.1.conv Try.prog Try.underlying43 Try.underlying5 Try.underlying9
          go_wp2
          go_ret2
          refine ⟨?_, HR.out.2⟩
          have e : (rateTail U 8).take 8 = rateTail U 8 := by simp [rateTail]
          simp [e, HU.out]
        · have hlen : (bytesOf b1 ++ (rateTail U 8).take (8 - (m + 1))).length < 140737488355328 := by
            rw [List.length_append, bytesOf_length, List.length_take]; omega
          go_wp2_with (at_builtin; refine Hand.ARow.append (w0 := w) (B := w.heap.size) _ rfl (.tmp 42) (.tmp 49) rfl Try.underlying43 info5 rfl rfl HR.out.1 HR.out.2 HR.out.2.size hlen ?_; intro v1 w3 hA hB; have HA := Aside0.mk hA; have HB3 := Aside0.mk hB; clear hA hB)
          refine ⟨⟨m, by omega, rfl, ?_, HB3.out⟩, by simp [intOf]⟩
          have e : bytesOf b1 ++ (rateTail U 8).take (8 - m) = bytesOf b1 ++ (rateTail U 8).take (8 - (m + 1)) ++ [U / 2 ^ (8 * m) % 256] := by
            rw [List.append_assoc, rateTail_snoc U m (by omega)]
          rw [e]
          exact HA.out

/-! ### lacquerref02_FromBe: function 24 -/
mutual
def lacquerref02_FromBe.j0 : Nat → ByteArray → Bool → Option (Int)
  | 0, _, _ => none
  | k + 1, x0, x17 => if x17 = true then (some (-1)) else (lacquerref02_FromBe.l0 k x0 0 0)
def lacquerref02_FromBe.l0 : Nat → ByteArray → Int → Int → Option (Int)
  | 0, _, _, _ => none
  | k + 1, x0, x3, x4 => if x4 < (x0.size : Int) then (if 0 ≤ x4 then (lacquerref02_FromBe.l0 k x0 (wrap64 ((wrap64 (x3 * 256)) + (wrap64 (bt x0 x4)))) (wrap64 (x4 + 1))) else (none)) else (some x3)
end
def lacquerref02_FromBe.f (k : Nat) (a0 : ByteArray) : Option (Int) := if (a0.size : Int) > 8 then (lacquerref02_FromBe.j0 k a0 true) else (if (a0.size : Int) = 8 then (if 0 < (a0.size : Int) then (lacquerref02_FromBe.j0 k a0 (decide ((bt a0 0) > 127))) else (none)) else (lacquerref02_FromBe.j0 k a0 false))
theorem lacquerref02_FromBe.mono_l : ∀ k, (∀ y0 y1, LeO (lacquerref02_FromBe.j0 k y0 y1) (lacquerref02_FromBe.j0 (k + 1) y0 y1)) ∧ (∀ y0 y1 y2, LeO (lacquerref02_FromBe.l0 k y0 y1 y2) (lacquerref02_FromBe.l0 (k + 1) y0 y1 y2))
  | 0 => ⟨fun _ _ r h => by simp [lacquerref02_FromBe.j0] at h, fun _ _ _ r h => by simp [lacquerref02_FromBe.l0] at h⟩
  | k + 1 => by
    obtain ⟨ih0, ih1⟩ := lacquerref02_FromBe.mono_l k
    refine ⟨?_, ?_⟩
    · intro y0 y1
      unfold lacquerref02_FromBe.j0
      repeat' first
      | (with_reducible exact ih0 _ _)
      | (with_reducible exact ih1 _ _ _)
      | (with_reducible exact LeO.refl _)
      | (with_reducible exact LeO.none _)
      | (with_reducible refine LeO.ite ?_ ?_)
      | (with_reducible refine LeO.bind ?_ (fun _ => ?_))
      | exact ih0 _ _
      | exact ih1 _ _ _
      | exact LeO.none _
      | refine LeO.ite ?_ ?_
      | refine LeO.bind ?_ (fun _ => ?_)
    · intro y0 y1 y2
      unfold lacquerref02_FromBe.l0
      repeat' first
      | (with_reducible exact ih0 _ _)
      | (with_reducible exact ih1 _ _ _)
      | (with_reducible exact LeO.refl _)
      | (with_reducible exact LeO.none _)
      | (with_reducible refine LeO.ite ?_ ?_)
      | (with_reducible refine LeO.bind ?_ (fun _ => ?_))
      | exact ih0 _ _
      | exact ih1 _ _ _
      | exact LeO.none _
      | refine LeO.ite ?_ ?_
      | refine LeO.bind ?_ (fun _ => ?_)
theorem lacquerref02_FromBe.mono : ∀ a0 k, LeO (lacquerref02_FromBe.f k a0) (lacquerref02_FromBe.f (k + 1) a0) := by
  intro a0 k
  obtain ⟨ih0, ih1⟩ := lacquerref02_FromBe.mono_l k
  unfold lacquerref02_FromBe.f
  repeat' first
      | (with_reducible exact ih0 _ _)
      | (with_reducible exact ih1 _ _ _)
      | (with_reducible exact LeO.refl _)
      | (with_reducible exact LeO.none _)
      | (with_reducible refine LeO.ite ?_ ?_)
      | (with_reducible refine LeO.bind ?_ (fun _ => ?_))
      | exact ih0 _ _
      | exact ih1 _ _ _
      | exact LeO.none _
      | refine LeO.ite ?_ ?_
      | refine LeO.bind ?_ (fun _ => ?_)
set_option maxHeartbeats 8000000 in
set_option maxRecDepth 100000 in
theorem lacquerref02_FromBe.calls (k : Nat) (a0 : ByteArray) (r : Int) (w : World) (h : lacquerref02_FromBe.f k a0 = some r) :
    Calls Try.prog 24 #[.string a0] w fun e w' => e = .returned (.int .i64 r) ∧ Drawn0 w w' := by
  have H : (if (a0.size : Int) > 8 then (lacquerref02_FromBe.j0 k a0 true) else (if (a0.size : Int) = 8 then (if 0 < (a0.size : Int) then (lacquerref02_FromBe.j0 k a0 (decide ((bt a0 0) > 127))) else (none)) else (lacquerref02_FromBe.j0 k a0 false))) = some r := h
  clear h
  have HC2 := Aside0.mk H
  clear H
  go_enter Try.func24, Try.ntmps24
  go_upto_region 1 with (fail)
  go_cut [17] (fun v17 wc => ∃ (kq : Nat) (x17_1 : Bool), v17 = .bool x17_1 ∧ Aside0 (lacquerref02_FromBe.j0 kq a0 x17_1 = some r) ∧ Aside0 (kq ≤ k) ∧ Drawn0 w wc)
  case first =>
    have H := HC2.out
    clear HC2
    by_cases c3 : (a0.size : Int) > 8
    · rw [if_pos c3] at H
      have c3b0 : decide (8 < (a0.size : Int)) = true := decide_eq_true c3
      have c3b1 : decide (8 < a0.size) = true := decide_eq_true (by omega)
      clear c3
      (first | rw [c3b0] | (simp only [i64_w, i32_w]; rw [c3b0]) | skip)
      have H' := Aside0.mk H
      clear H
      go_wp2
      go_meet
      case rel => exact ⟨_, (true), (by first | rfl | (simp; done) | (simp [*]; done)), H', ⟨by first | omega | exact Nat.le_refl _⟩, by repeat (first | exact Drawn0.refl _ | apply Drawn0.step)⟩
    · rw [if_neg c3] at H
      have c3b0 : decide (8 < (a0.size : Int)) = false := decide_eq_false c3
      have c3b1 : decide (8 < a0.size) = false := decide_eq_false (by omega)
      clear c3
      (first | rw [c3b0] | (simp only [i64_w, i32_w]; rw [c3b0]) | skip)
      by_cases c4 : (a0.size : Int) = 8
      · rw [if_pos c4] at H
        have c4b0 : ((a0.size : Int) == 8) = true := beq_iff_eq.mpr c4
        have c4b1 : ((a0.size : Int) != 8) = false := bne_eq_false_iff_eq.mpr c4
        clear c4
        by_cases c5 : 0 < (a0.size : Int)
        · rw [if_pos c5] at H
          have c5b0 : decide (0 < (a0.size : Int)) = true := decide_eq_true c5
          have c5b1 : decide (0 < a0.size) = true := decide_eq_true (by omega)
          clear c5
          have H' := Aside0.mk H
          clear H
          have p6 : 0 ≤ (0 : Int) := (by omega)
          have q6 : 0 < a0.size := (by have : (0 : Int) < (a0.size : Int) := of_decide_eq_true (by first | (with_reducible assumption) | assumption); omega)
          have hx6 : ∀ h : 0 < a0.size, ((a0[0]'h).toNat : Int) = bt a0 0 := bt_at a0 0
          clear p6
          have qi6 : (0 < (a0.size : Int)) = True := eq_true (of_decide_eq_true (by first | (with_reducible assumption) | assumption))
          replace q6 := eq_true q6
          go_wp2
          go_meet
          case rel => exact ⟨_, (decide ((bt a0 0) > 127)), (by first | rfl | (simp; done) | (simp [*]; done)), H', ⟨by first | omega | exact Nat.le_refl _⟩, by repeat (first | exact Drawn0.refl _ | apply Drawn0.step)⟩
        · rw [if_neg c5] at H
          exact absurd H (by simp)
      · rw [if_neg c4] at H
        have c4b0 : ((a0.size : Int) == 8) = false := beq_eq_false_iff_ne.mpr c4
        have c4b1 : ((a0.size : Int) != 8) = true := bne_iff_ne.mpr c4
        have H' := Aside0.mk H
        clear H
        go_wp2
        go_meet
        case rel => exact ⟨_, (false), (by first | rfl | (simp; done) | (simp [*]; done)), H', ⟨by first | omega | exact Nat.le_refl _⟩, by repeat (first | exact Drawn0.refl _ | apply Drawn0.step)⟩
  case rest =>
    clear HC2
    try clear c2
    try clear p2
    try clear c3
    try clear c3b0
    try clear c3b1
    try clear c4
    try clear c4b0
    try clear c4b1
    try clear c5
    try clear c5b0
    try clear c5b1
    try clear p6
    try clear q6
    try clear hx6
    try clear qi6
    try clear p6
    try clear q6
    obtain ⟨kq, x17_1, rfl, HA, HJ1, ⟨mc1, rfl⟩⟩ := hcut
    cases kq with
    | zero => exact absurd HA.out (by simp [lacquerref02_FromBe.j0])
    | succ kj1 =>
      have H := HA.out
      clear HA
      simp only [lacquerref02_FromBe.j0] at H
      by_cases c7 : x17_1 = true
      · subst c7
        have H1 : (some (-1)) = some r := by rw [if_pos rfl] at H; exact H
        clear H
        have H := H1
        clear H1
        obtain rfl := Option.some.inj H
        go_wp2
        go_ret
        exact ⟨by first | rfl | (simp; done) | (simp [*]; done), by repeat (first | exact Drawn0.refl _ | apply Drawn0.step)⟩
      · replace c7 := Bool.eq_false_iff.mpr c7
        subst c7
        have H1 : (lacquerref02_FromBe.l0 kj1 a0 0 0) = some r := by rw [if_neg (show ¬ (false = true) by decide)] at H; exact H
        clear H
        have H := H1
        clear H1
        have H' := Aside0.mk H
        clear H
        go_wp2
        go_loopg [3, 4] kj1 (fun kq v3 v4 w' => ∃ (x3_2 : Int) (x4_2 : Int), v3 = .int .i64 x3_2 ∧ v4 = .int .i64 x4_2 ∧ Aside0 (lacquerref02_FromBe.l0 kq a0 x3_2 x4_2 = some r) ∧ Aside0 (kq ≤ kj1) ∧ Drawn0 w w')
        case atStart => exact ⟨(0), (0), (by first | rfl | (simp; done) | (simp [*]; done)), (by first | rfl | (simp; done) | (simp [*]; done)), H', ⟨Nat.le_refl _⟩, by repeat (first | exact Drawn0.refl _ | apply Drawn0.step)⟩
        case round =>
          clear H'
          try clear c1
          try clear c2
          try clear p2
          try clear c3
          try clear c3b0
          try clear c3b1
          try clear c4
          try clear c4b0
          try clear c4b1
          try clear c5
          try clear c5b0
          try clear c5b1
          try clear p6
          try clear q6
          try clear hx6
          try clear qi6
          try clear c7
          try clear p2
          try clear p6
          try clear q6
          obtain ⟨x3_2, x4_2, rfl, rfl, HA, HK2, ⟨m2, rfl⟩⟩ := hrel
          cases gk with
          | zero => exact absurd HA.out (by simp [lacquerref02_FromBe.l0])
          | succ k2 =>
            have H := HA.out
            clear HA
            simp only [lacquerref02_FromBe.l0] at H
            by_cases c8 : x4_2 < (a0.size : Int)
            · rw [if_pos c8] at H
              have c8b0 : decide (x4_2 < (a0.size : Int)) = true := decide_eq_true c8
              clear c8
              by_cases c9 : 0 ≤ x4_2
              · rw [if_pos c9] at H
                have c9b0 : decide (0 ≤ x4_2) = true := decide_eq_true c9
                clear c9
                have H' := Aside0.mk H
                clear H
                have p10 : 0 ≤ (x4_2 : Int) := of_decide_eq_true (by first | (with_reducible assumption) | assumption)
                have q10 : x4_2 < (a0.size : Int) := of_decide_eq_true (by first | (with_reducible assumption) | assumption)
                have hx10 := bt_at a0 x4_2
                replace p10 := eq_true p10
                replace q10 := eq_true q10
                go_wp2
                go_roundg k2
                case measure => have := HJ1.out; have := HK2.out; omega
                case rel => exact ⟨(wrap64 ((wrap64 (x3_2 * 256)) + (wrap64 (bt a0 x4_2)))), (wrap64 (x4_2 + 1)), (by first | rfl | (simp; done) | (simp [*]; done)), (by first | rfl | (simp; done) | (simp [*]; done)), H', ⟨by have := HJ1.out; have := HK2.out; omega⟩, by repeat (first | exact Drawn0.refl _ | apply Drawn0.step)⟩
              · rw [if_neg c9] at H
                exact absurd H (by simp)
            · rw [if_neg c8] at H
              have c8b0 : decide (x4_2 < (a0.size : Int)) = false := decide_eq_false c8
              clear c8
              obtain rfl := Option.some.inj H
              go_wp2
              go_ret
              exact ⟨by first | rfl | (simp; done) | (simp [*]; done), by repeat (first | exact Drawn0.refl _ | apply Drawn0.step)⟩

/-! ### lacquerref02_FromRate: function 20 -/
mutual
def lacquerref02_FromRate.j0 : Nat → ByteArray → Int → Bool → Option (Int × Int)
  | 0, _, _, _ => none
  | k + 1, x0, x4, x22 => if x22 = true then (some (0, 3)) else (lacquerref02_FromRate.l0 k x0 x4 0 2)
def lacquerref02_FromRate.l0 : Nat → ByteArray → Int → Int → Int → Option (Int × Int)
  | 0, _, _, _, _ => none
  | k + 1, x0, x4, x5, x6 => if x6 < 10 then (if 0 ≤ x6 then (if x6 < (x0.size : Int) then (lacquerref02_FromRate.l0 k x0 x4 (IntKind.u64.wrap ((IntKind.u64.wrap (x5 * 256)) + (IntKind.u64.wrap (bt x0 x6)))) (wrap64 (x6 + 1))) else (none)) else (none)) else (if 0 ≤ (IntKind.u64.wrap (wrap64 (63 - x4))) then ((lacquerref02_Rate.f k (wrap64 (shr .u64 x5 (IntKind.u64.wrap (wrap64 (63 - x4)))))).bind fun bt176 => (if bt176.2 = 0 then (if bt176.1.toList = x0.toList then (some (wrap64 (shr .u64 x5 (IntKind.u64.wrap (wrap64 (63 - x4)))), 0)) else (some (0, 3))) else (some (0, 3)))) else (none))
end
def lacquerref02_FromRate.f (k : Nat) (a0 : ByteArray) : Option (Int × Int) := if (a0.size : Int) = 10 then (if 0 ≤ 2 then (if 2 ≤ (a0.size : Int) then ((lacquerref02_FromBe.f k (a0.extract 0 2)).bind fun t175 => (if (wrap64 (t175 - 16383)) < 0 then (lacquerref02_FromRate.j0 k a0 (wrap64 (t175 - 16383)) true) else (lacquerref02_FromRate.j0 k a0 (wrap64 (t175 - 16383)) (decide ((wrap64 (t175 - 16383)) > 19))))) else (none)) else (none)) else (some (0, 2))
theorem lacquerref02_FromRate.mono_l : ∀ k, (∀ y0 y1 y2, LeO (lacquerref02_FromRate.j0 k y0 y1 y2) (lacquerref02_FromRate.j0 (k + 1) y0 y1 y2)) ∧ (∀ y0 y1 y2 y3, LeO (lacquerref02_FromRate.l0 k y0 y1 y2 y3) (lacquerref02_FromRate.l0 (k + 1) y0 y1 y2 y3))
  | 0 => ⟨fun _ _ _ r h => by simp [lacquerref02_FromRate.j0] at h, fun _ _ _ _ r h => by simp [lacquerref02_FromRate.l0] at h⟩
  | k + 1 => by
    obtain ⟨ih0, ih1⟩ := lacquerref02_FromRate.mono_l k
    refine ⟨?_, ?_⟩
    · intro y0 y1 y2
      unfold lacquerref02_FromRate.j0
      repeat' first
      | (with_reducible exact ih0 _ _ _)
      | (with_reducible exact ih1 _ _ _ _)
      | (with_reducible exact lacquerref02_FromBe.mono _ _)
      | (with_reducible exact lacquerref02_Rate.mono _ _)
      | (with_reducible exact LeO.refl _)
      | (with_reducible exact LeO.none _)
      | (with_reducible refine LeO.ite ?_ ?_)
      | (with_reducible refine LeO.bind ?_ (fun _ => ?_))
      | exact ih0 _ _ _
      | exact ih1 _ _ _ _
      | exact lacquerref02_FromBe.mono _ _
      | exact lacquerref02_Rate.mono _ _
      | exact LeO.none _
      | refine LeO.ite ?_ ?_
      | refine LeO.bind ?_ (fun _ => ?_)
    · intro y0 y1 y2 y3
      unfold lacquerref02_FromRate.l0
      repeat' first
      | (with_reducible exact ih0 _ _ _)
      | (with_reducible exact ih1 _ _ _ _)
      | (with_reducible exact lacquerref02_FromBe.mono _ _)
      | (with_reducible exact lacquerref02_Rate.mono _ _)
      | (with_reducible exact LeO.refl _)
      | (with_reducible exact LeO.none _)
      | (with_reducible refine LeO.ite ?_ ?_)
      | (with_reducible refine LeO.bind ?_ (fun _ => ?_))
      | exact ih0 _ _ _
      | exact ih1 _ _ _ _
      | exact lacquerref02_FromBe.mono _ _
      | exact lacquerref02_Rate.mono _ _
      | exact LeO.none _
      | refine LeO.ite ?_ ?_
      | refine LeO.bind ?_ (fun _ => ?_)
theorem lacquerref02_FromRate.mono : ∀ a0 k, LeO (lacquerref02_FromRate.f k a0) (lacquerref02_FromRate.f (k + 1) a0) := by
  intro a0 k
  obtain ⟨ih0, ih1⟩ := lacquerref02_FromRate.mono_l k
  unfold lacquerref02_FromRate.f
  repeat' first
      | (with_reducible exact ih0 _ _ _)
      | (with_reducible exact ih1 _ _ _ _)
      | (with_reducible exact lacquerref02_FromBe.mono _ _)
      | (with_reducible exact lacquerref02_Rate.mono _ _)
      | (with_reducible exact LeO.refl _)
      | (with_reducible exact LeO.none _)
      | (with_reducible refine LeO.ite ?_ ?_)
      | (with_reducible refine LeO.bind ?_ (fun _ => ?_))
      | exact ih0 _ _ _
      | exact ih1 _ _ _ _
      | exact lacquerref02_FromBe.mono _ _
      | exact lacquerref02_Rate.mono _ _
      | exact LeO.none _
      | refine LeO.ite ?_ ?_
      | refine LeO.bind ?_ (fun _ => ?_)
set_option maxHeartbeats 8000000 in
set_option maxRecDepth 100000 in
theorem lacquerref02_FromRate.calls (k : Nat) (a0 : ByteArray) (r1 : Int) (r2 : Int) (w : World) (h : lacquerref02_FromRate.f k a0 = some (r1, r2)) :
    Calls Try.prog 20 #[.string a0] w fun e w' => e = .returned (.tuple #[.int .i64 r1, .int .i64 r2]) ∧ Below w.heap.size w w' := by
  have HB := Aside0.mk (Below.refl w.heap.size w)
  have H : (if (a0.size : Int) = 10 then (if 0 ≤ 2 then (if 2 ≤ (a0.size : Int) then ((lacquerref02_FromBe.f k (a0.extract 0 2)).bind fun t175 => (if (wrap64 (t175 - 16383)) < 0 then (lacquerref02_FromRate.j0 k a0 (wrap64 (t175 - 16383)) true) else (lacquerref02_FromRate.j0 k a0 (wrap64 (t175 - 16383)) (decide ((wrap64 (t175 - 16383)) > 19))))) else (none)) else (none)) else (some (0, 2))) = some (r1, r2) := h
  clear h
  by_cases c2 : (a0.size : Int) = 10
  · rw [if_pos c2] at H
    have c2b0 : ((a0.size : Int) == 10) = true := beq_iff_eq.mpr c2
    have c2b1 : ((a0.size : Int) != 10) = false := bne_eq_false_iff_eq.mpr c2
    clear c2
    by_cases c3 : 0 ≤ 2
    · rw [if_pos c3] at H
      have c3b0 := eq_true c3
      have c3b1 : decide (0 ≤ 2) = true := decide_eq_true c3
      clear c3
      by_cases c4 : 2 ≤ (a0.size : Int)
      · rw [if_pos c4] at H
        have c4b0 := eq_true c4
        have c4b1 : decide (2 ≤ (a0.size : Int)) = true := decide_eq_true c4
        clear c4
        replace H := Option.bind_eq_some_iff.mp H
        obtain ⟨t175, A50, H⟩ := H
        replace H : (if (wrap64 (t175 - 16383)) < 0 then (lacquerref02_FromRate.j0 k a0 (wrap64 (t175 - 16383)) true) else (lacquerref02_FromRate.j0 k a0 (wrap64 (t175 - 16383)) (decide ((wrap64 (t175 - 16383)) > 19)))) = some (r1, r2) := H
        have A5 := Aside0.mk A50
        clear A50
        have HC6 := Aside0.mk H
        clear H
        go_enter Try.func20, Try.ntmps20
        go_upto_region 4 with (first | ((with_reducible refine gate_callee (f := 24) rfl ?_); refine goesL_ (some 15) rfl rfl Try.func24 (by kernel_rfl) rfl #[.string (a0.extract 0 2)] rfl (by (try simp only [List.map_toArray, List.map_cons, List.map_nil]); first | done | rfl | (simp only [List.length_drop, List.length_take]; rfl)) ?_; (with_reducible refine (lacquerref02_FromBe.calls k (a0.extract 0 2) t175 _ A5.out).mono ?_); rintro e w' ⟨rfl, ⟨nd, rfl⟩⟩; refine ⟨_, rfl, ?_⟩))
        (try simp only [Act.put, List.setIfInBounds_toArray, List.set_cons_zero, List.set_cons_succ])
        go_cut [22] (fun v22 wc => ∃ (kq : Nat) (x22_5 : Bool), v22 = .bool x22_5 ∧ Aside0 (lacquerref02_FromRate.j0 kq a0 (wrap64 (t175 - 16383)) x22_5 = some (r1, r2)) ∧ Aside0 (kq ≤ k) ∧ Aside0 (Below w.heap.size w wc))
        case first =>
          have H := HC6.out
          clear HC6
          by_cases c7 : (wrap64 (t175 - 16383)) < 0
          · rw [if_pos c7] at H
            have c7b0 : decide ((wrap64 (t175 - 16383)) < 0) = true := decide_eq_true c7
            clear c7
            (first | rw [c7b0] | (simp only [i64_w, i32_w]; rw [c7b0]) | skip)
            have H' := Aside0.mk H
            clear H
            go_wp2
            go_meet
            case rel => exact ⟨_, (true), (by first | rfl | (simp; done) | (simp [*]; done)), H', ⟨by first | omega | exact Nat.le_refl _⟩, ⟨by repeat (first | (with_reducible first | exact HB.out | apply below_alloc | apply pw_below_drewN | apply below_drew1) | exact HB.out)⟩⟩
          · rw [if_neg c7] at H
            have c7b0 : decide ((wrap64 (t175 - 16383)) < 0) = false := decide_eq_false c7
            clear c7
            (first | rw [c7b0] | (simp only [i64_w, i32_w]; rw [c7b0]) | skip)
            have H' := Aside0.mk H
            clear H
            go_wp2
            go_meet
            case rel => exact ⟨_, (decide ((wrap64 (t175 - 16383)) > 19)), (by first | rfl | (simp; done) | (simp [*]; done)), H', ⟨by first | omega | exact Nat.le_refl _⟩, ⟨by repeat (first | (with_reducible first | exact HB.out | apply below_alloc | apply pw_below_drewN | apply below_drew1) | exact HB.out)⟩⟩
        case rest =>
          clear HC6
          try clear c2
          try clear c2b0
          try clear c2b1
          try clear p2
          try clear c3
          try clear c3b0
          try clear c3b1
          try clear c4
          try clear c4b0
          try clear c4b1
          try clear p6
          try clear c7
          try clear c7b0
          obtain ⟨kq, x22_5, rfl, HA, HJ5, HB⟩ := hcut
          cases kq with
          | zero => exact absurd HA.out (by simp [lacquerref02_FromRate.j0])
          | succ kj5 =>
            have H := HA.out
            clear HA
            simp only [lacquerref02_FromRate.j0] at H
            by_cases c8 : x22_5 = true
            · subst c8
              have H1 : (some (0, 3)) = some (r1, r2) := by rw [if_pos rfl] at H; exact H
              clear H
              have H := H1
              clear H1
              simp only [Option.some.injEq, Prod.mk.injEq] at H
              obtain ⟨rfl, rfl⟩ := H
              go_wp2
              go_ret2
              exact ⟨by first | rfl | (simp [errW_none, errW_some] <;> rfl) | (simp [*, errW_none, errW_some] <;> rfl), by repeat (first | (with_reducible first | exact HB.out | apply below_alloc | apply pw_below_drewN | apply below_drew1) | exact HB.out)⟩
            · replace c8 := Bool.eq_false_iff.mpr c8
              subst c8
              have H1 : (lacquerref02_FromRate.l0 kj5 a0 (wrap64 (t175 - 16383)) 0 2) = some (r1, r2) := by rw [if_neg (show ¬ (false = true) by decide)] at H; exact H
              clear H
              have H := H1
              clear H1
              have H' := Aside0.mk H
              clear H
              go_wp2
              go_loopg [5, 6] kj5 (fun kq v5 v6 w' => ∃ (x5_2 : Int) (x6_2 : Int), v5 = .int .u64 x5_2 ∧ v6 = .int .i64 x6_2 ∧ Aside0 (lacquerref02_FromRate.l0 kq a0 (wrap64 (t175 - 16383)) x5_2 x6_2 = some (r1, r2)) ∧ Aside0 (kq ≤ kj5) ∧ Aside0 (Below w.heap.size w w'))
              case atStart => exact ⟨(0), (2), (by first | rfl | (simp; done) | (simp [*]; done)), (by first | rfl | (simp; done) | (simp [*]; done)), H', ⟨Nat.le_refl _⟩, ⟨by repeat (first | (with_reducible first | exact HB.out | apply below_alloc | apply pw_below_drewN | apply below_drew1) | exact HB.out)⟩⟩
              case round =>
                clear H'
                try clear c2
                try clear c2b0
                try clear c2b1
                try clear p2
                try clear c3
                try clear c3b0
                try clear c3b1
                try clear c4
                try clear c4b0
                try clear c4b1
                try clear p6
                try clear c7
                try clear c7b0
                try clear c8
                try clear p2
                try clear p6
                obtain ⟨x5_2, x6_2, rfl, rfl, HA, HK2, HB⟩ := hrel
                cases gk with
                | zero => exact absurd HA.out (by simp [lacquerref02_FromRate.l0])
                | succ k2 =>
                  have H := HA.out
                  clear HA
                  simp only [lacquerref02_FromRate.l0] at H
                  by_cases c9 : x6_2 < 10
                  · rw [if_pos c9] at H
                    have c9b0 : decide (x6_2 < 10) = true := decide_eq_true c9
                    clear c9
                    by_cases c10 : 0 ≤ x6_2
                    · rw [if_pos c10] at H
                      have c10b0 : decide (0 ≤ x6_2) = true := decide_eq_true c10
                      clear c10
                      by_cases c11 : x6_2 < (a0.size : Int)
                      · rw [if_pos c11] at H
                        have c11b0 : decide (x6_2 < (a0.size : Int)) = true := decide_eq_true c11
                        clear c11
                        have H' := Aside0.mk H
                        clear H
                        have p12 : 0 ≤ (x6_2 : Int) := of_decide_eq_true (by first | (with_reducible assumption) | assumption)
                        have q12 : x6_2 < (a0.size : Int) := of_decide_eq_true (by first | (with_reducible assumption) | assumption)
                        have hx12 := bt_at a0 x6_2
                        replace p12 := eq_true p12
                        replace q12 := eq_true q12
                        go_wp2
                        go_roundg k2
                        case measure => have := HJ5.out; have := HK2.out; omega
                        case rel => exact ⟨(IntKind.u64.wrap ((IntKind.u64.wrap (x5_2 * 256)) + (IntKind.u64.wrap (bt a0 x6_2)))), (wrap64 (x6_2 + 1)), (by first | rfl | (simp; done) | (simp [*]; done)), (by first | rfl | (simp; done) | (simp [*]; done)), H', ⟨by have := HJ5.out; have := HK2.out; omega⟩, ⟨by repeat (first | (with_reducible first | exact HB.out | apply below_alloc | apply pw_below_drewN | apply below_drew1) | exact HB.out)⟩⟩
                      · rw [if_neg c11] at H
                        exact absurd H (by simp)
                    · rw [if_neg c10] at H
                      exact absurd H (by simp)
                  · rw [if_neg c9] at H
                    have c9b0 : decide (x6_2 < 10) = false := decide_eq_false c9
                    clear c9
                    obtain ⟨ji13, hji13⟩ : ∃ j_ : Int, (IntKind.u64.wrap (wrap64 (63 - (wrap64 (t175 - 16383))))) = j_ := ⟨_, rfl⟩
                    replace H : (if 0 ≤ (ji13) then ((lacquerref02_Rate.f k2 (wrap64 (shr .u64 x5_2 (ji13)))).bind fun bt176 => (if bt176.2 = 0 then (if bt176.1.toList = a0.toList then (some (wrap64 (shr .u64 x5_2 (ji13)), 0)) else (some (0, 3))) else (some (0, 3)))) else (none)) = some (r1, r2) := by first | (rw [hji13] at H; exact H) | (simp only [hji13] at H ⊢; exact H)
                    by_cases c14 : 0 ≤ (ji13)
                    · rw [if_pos c14] at H
                      have c14b0 := eq_true c14
                      have c14b1 : decide (0 ≤ (ji13)) = true := decide_eq_true c14
                      clear c14
                      obtain ⟨ji15, hji15⟩ : ∃ j_ : Int, (shr .u64 x5_2 (ji13)) = j_ := ⟨_, rfl⟩
                      replace H : ((lacquerref02_Rate.f k2 (wrap64 (ji15))).bind fun bt176 => (if bt176.2 = 0 then (if bt176.1.toList = a0.toList then (some (wrap64 (ji15), 0)) else (some (0, 3))) else (some (0, 3)))) = some (r1, r2) := by first | (rw [hji15] at H; exact H) | (simp only [hji15] at H ⊢; exact H)
                      have hji15_ : (x5_2 / 2 ^ min (ji13).toNat 64) = ji15 := hji15
                      have hji15z : (ji13) ≤ 64 → (x5_2 / 2 ^ (ji13).toNat) = ji15 := shr_small hji15
                      replace H := Option.bind_eq_some_iff.mp H
                      obtain ⟨⟨t176, t177⟩, A160, H⟩ := H
                      replace H : (if t177 = 0 then (if t176.toList = a0.toList then (some (wrap64 (ji15), 0)) else (some (0, 3))) else (some (0, 3))) = some (r1, r2) := H
                      have A16 := Aside0.mk A160
                      clear A160
                      by_cases c17 : t177 = 0
                      · rw [if_pos c17] at H
                        have c17b0 : (t177 == 0) = true := beq_iff_eq.mpr c17
                        have c17b1 : (t177 != 0) = false := bne_eq_false_iff_eq.mpr c17
                        clear c17
                        by_cases c18 : t176.toList = a0.toList
                        · rw [if_pos c18] at H
                          have c18b0 : (t176.toList == a0.toList) = true := beq_iff_eq.mpr c18
                          have c18b1 : (t176.toList != a0.toList) = false := bne_eq_false_iff_eq.mpr c18
                          clear c18
                          simp only [Option.some.injEq, Prod.mk.injEq] at H
                          obtain ⟨rfl, rfl⟩ := H
                          go_wp2_with (first | ((with_reducible refine gate_callee (f := 16) rfl ?_); refine goesL_ (some 42) rfl rfl Try.func16 (by kernel_rfl) rfl #[.int .i64 (wrap64 (ji15))] rfl (by (try simp only [List.map_toArray, List.map_cons, List.map_nil]); first | done | (simp only [hji15]; rfl) | rfl | (simp only [List.length_drop, List.length_take]; rfl)) ?_; (with_reducible refine (lacquerref02_Rate.calls k2 (wrap64 (ji15)) t176 t177 _ A16.out).mono ?_); rintro e w19 ⟨rfl, hb⟩; refine ⟨_, rfl, ?_⟩; have n0_ := Aside0.mk (below_step (by repeat (first | (with_reducible first | exact HB.out | apply below_alloc | apply pw_below_drewN | apply below_drew1) | exact HB.out)) hb); clear HB; have HB := n0_; clear n0_; (try clear hb); (try clear hb2); (try clear hk); (try clear hi)))
                          go_ret2
                          exact ⟨by first | rfl | (simp [errW_none, errW_some] <;> rfl) | (simp only [← hji13, ← hji15]; first | rfl | (simp [errW_none, errW_some] <;> rfl)) | (simp [*, errW_none, errW_some] <;> rfl), by repeat (first | (with_reducible first | exact HB.out | apply below_alloc | apply pw_below_drewN | apply below_drew1) | exact HB.out)⟩
                        · rw [if_neg c18] at H
                          have c18b0 : (t176.toList == a0.toList) = false := beq_eq_false_iff_ne.mpr c18
                          have c18b1 : (t176.toList != a0.toList) = true := bne_iff_ne.mpr c18
                          simp only [Option.some.injEq, Prod.mk.injEq] at H
                          obtain ⟨rfl, rfl⟩ := H
                          go_wp2_with (first | ((with_reducible refine gate_callee (f := 16) rfl ?_); refine goesL_ (some 42) rfl rfl Try.func16 (by kernel_rfl) rfl #[.int .i64 (wrap64 (ji15))] rfl (by (try simp only [List.map_toArray, List.map_cons, List.map_nil]); first | done | (simp only [hji15]; rfl) | rfl | (simp only [List.length_drop, List.length_take]; rfl)) ?_; (with_reducible refine (lacquerref02_Rate.calls k2 (wrap64 (ji15)) t176 t177 _ A16.out).mono ?_); rintro e w20 ⟨rfl, hb⟩; refine ⟨_, rfl, ?_⟩; have n0_ := Aside0.mk (below_step (by repeat (first | (with_reducible first | exact HB.out | apply below_alloc | apply pw_below_drewN | apply below_drew1) | exact HB.out)) hb); clear HB; have HB := n0_; clear n0_; (try clear hb); (try clear hb2); (try clear hk); (try clear hi)))
                          go_ret2
                          exact ⟨by first | rfl | (simp [errW_none, errW_some] <;> rfl) | (simp only [← hji13, ← hji15]; first | rfl | (simp [errW_none, errW_some] <;> rfl)) | (simp [*, errW_none, errW_some] <;> rfl), by repeat (first | (with_reducible first | exact HB.out | apply below_alloc | apply pw_below_drewN | apply below_drew1) | exact HB.out)⟩
                      · rw [if_neg c17] at H
                        have c17b0 : (t177 == 0) = false := beq_eq_false_iff_ne.mpr c17
                        have c17b1 : (t177 != 0) = true := bne_iff_ne.mpr c17
                        simp only [Option.some.injEq, Prod.mk.injEq] at H
                        obtain ⟨rfl, rfl⟩ := H
                        go_wp2_with (first | ((with_reducible refine gate_callee (f := 16) rfl ?_); refine goesL_ (some 42) rfl rfl Try.func16 (by kernel_rfl) rfl #[.int .i64 (wrap64 (ji15))] rfl (by (try simp only [List.map_toArray, List.map_cons, List.map_nil]); first | done | (simp only [hji15]; rfl) | rfl | (simp only [List.length_drop, List.length_take]; rfl)) ?_; (with_reducible refine (lacquerref02_Rate.calls k2 (wrap64 (ji15)) t176 t177 _ A16.out).mono ?_); rintro e w21 ⟨rfl, hb⟩; refine ⟨_, rfl, ?_⟩; have n0_ := Aside0.mk (below_step (by repeat (first | (with_reducible first | exact HB.out | apply below_alloc | apply pw_below_drewN | apply below_drew1) | exact HB.out)) hb); clear HB; have HB := n0_; clear n0_; (try clear hb); (try clear hb2); (try clear hk); (try clear hi)))
                        go_ret2
                        exact ⟨by first | rfl | (simp [errW_none, errW_some] <;> rfl) | (simp only [← hji13, ← hji15]; first | rfl | (simp [errW_none, errW_some] <;> rfl)) | (simp [*, errW_none, errW_some] <;> rfl), by repeat (first | (with_reducible first | exact HB.out | apply below_alloc | apply pw_below_drewN | apply below_drew1) | exact HB.out)⟩
                    · rw [if_neg c14] at H
                      exact absurd H (by simp)
      · rw [if_neg c4] at H
        exact absurd H (by simp)
    · rw [if_neg c3] at H
      exact absurd H (by simp)
  · rw [if_neg c2] at H
    have c2b0 : ((a0.size : Int) == 10) = false := beq_eq_false_iff_ne.mpr c2
    have c2b1 : ((a0.size : Int) != 10) = true := bne_iff_ne.mpr c2
    simp only [Option.some.injEq, Prod.mk.injEq] at H
    obtain ⟨rfl, rfl⟩ := H
    go_enter Try.func20, Try.ntmps20
    go_wp2
    go_ret2
    exact ⟨by first | rfl | (simp [errW_none, errW_some] <;> rfl) | (simp [*, errW_none, errW_some] <;> rfl), by repeat (first | (with_reducible first | exact HB.out | apply below_alloc | apply pw_below_drewN | apply below_drew1) | exact HB.out)⟩

/-! ### bytes_FromLe: function 21 -/
def bytes_FromLe.f (k : Nat) (a0 : ByteArray) : Option (Int) := (bytes_turn.f a0).bind fun t178 => ((bytes_FromBe.f k t178).bind fun t179 => (some t179))
theorem bytes_FromLe.mono : ∀ a0 k, LeO (bytes_FromLe.f k a0) (bytes_FromLe.f (k + 1) a0) := by
  intro a0 k
  unfold bytes_FromLe.f
  repeat' first
      | (with_reducible exact bytes_FromBe.mono _ _)
      | (with_reducible exact LeO.refl _)
      | (with_reducible exact LeO.none _)
      | (with_reducible refine LeO.ite ?_ ?_)
      | (with_reducible refine LeO.bind ?_ (fun _ => ?_))
      | exact bytes_FromBe.mono _ _
      | exact LeO.none _
      | refine LeO.ite ?_ ?_
      | refine LeO.bind ?_ (fun _ => ?_)
set_option maxHeartbeats 8000000 in
set_option maxRecDepth 100000 in
theorem bytes_FromLe.calls (k : Nat) (a0 : ByteArray) (r : Int) (w : World) (h : bytes_FromLe.f k a0 = some r) :
    Calls Try.prog 21 #[.string a0] w fun e w' => e = .returned (.int .i64 r) ∧ Below w.heap.size w w' := by
  have HB := Aside0.mk (Below.refl w.heap.size w)
  have H : ((bytes_turn.f a0).bind fun t178 => ((bytes_FromBe.f k t178).bind fun t179 => (some t179))) = some r := h
  clear h
  replace H := Option.bind_eq_some_iff.mp H
  obtain ⟨t178, A20, H⟩ := H
  replace H : ((bytes_FromBe.f k t178).bind fun t179 => (some t179)) = some r := H
  have A2 := Aside0.mk A20
  clear A20
  replace H := Option.bind_eq_some_iff.mp H
  obtain ⟨t179, A30, H⟩ := H
  replace H : (some t179) = some r := H
  have A3 := Aside0.mk A30
  clear A30
  obtain rfl := Option.some.inj H
  go_enter Try.func21, Try.ntmps21
  go_wp2_with (first | ((with_reducible refine gate_callee (f := 26) rfl ?_); refine goesL_ (some 4) rfl rfl Try.func26 (by kernel_rfl) rfl #[.string a0] rfl (by (try simp only [List.map_toArray, List.map_cons, List.map_nil]); first | done | rfl | (simp only [List.length_drop, List.length_take]; rfl)) ?_; (with_reducible refine (bytes_turn.calls a0 t178 _ A2.out).mono ?_); rintro e w4 ⟨rfl, hb⟩; refine ⟨_, rfl, ?_⟩; have n0_ := Aside0.mk (below_step (by repeat (first | (with_reducible first | exact HB.out | apply below_alloc | apply pw_below_drewN | apply below_drew1) | exact HB.out)) hb); clear HB; have HB := n0_; clear n0_; (try clear hb); (try clear hb2); (try clear hk); (try clear hi)) | ((with_reducible refine gate_callee (f := 23) rfl ?_); refine goesL_ (some 5) rfl rfl Try.func23 (by kernel_rfl) rfl #[.string t178] rfl (by (try simp only [List.map_toArray, List.map_cons, List.map_nil]); first | done | rfl | (simp only [List.length_drop, List.length_take]; rfl)) ?_; (with_reducible refine (bytes_FromBe.calls k t178 t179 _ A3.out).mono ?_); rintro e w' ⟨rfl, ⟨nd, rfl⟩⟩; refine ⟨_, rfl, ?_⟩))
  go_ret
  exact ⟨by first | rfl | (simp [errW_none, errW_some] <;> rfl) | (simp [*, errW_none, errW_some] <;> rfl), by repeat (first | (with_reducible first | exact HB.out | apply below_alloc | apply pw_below_drewN | apply below_drew1) | exact HB.out)⟩

/-! ### lacquerref02_FromLe: function 22 -/
def lacquerref02_FromLe.f (k : Nat) (a0 : ByteArray) : Option (Int) := (lacquerref02_turned.f k a0).bind fun t180 => ((lacquerref02_FromBe.f k t180).bind fun t181 => (some t181))
theorem lacquerref02_FromLe.mono : ∀ a0 k, LeO (lacquerref02_FromLe.f k a0) (lacquerref02_FromLe.f (k + 1) a0) := by
  intro a0 k
  unfold lacquerref02_FromLe.f
  repeat' first
      | (with_reducible exact lacquerref02_FromBe.mono _ _)
      | (with_reducible exact lacquerref02_turned.mono _ _)
      | (with_reducible exact LeO.refl _)
      | (with_reducible exact LeO.none _)
      | (with_reducible refine LeO.ite ?_ ?_)
      | (with_reducible refine LeO.bind ?_ (fun _ => ?_))
      | exact lacquerref02_FromBe.mono _ _
      | exact lacquerref02_turned.mono _ _
      | exact LeO.none _
      | refine LeO.ite ?_ ?_
      | refine LeO.bind ?_ (fun _ => ?_)
set_option maxHeartbeats 8000000 in
set_option maxRecDepth 100000 in
theorem lacquerref02_FromLe.calls (k : Nat) (a0 : ByteArray) (r : Int) (w : World) (h : lacquerref02_FromLe.f k a0 = some r) :
    Calls Try.prog 22 #[.string a0] w fun e w' => e = .returned (.int .i64 r) ∧ Below w.heap.size w w' := by
  have HB := Aside0.mk (Below.refl w.heap.size w)
  have H : ((lacquerref02_turned.f k a0).bind fun t180 => ((lacquerref02_FromBe.f k t180).bind fun t181 => (some t181))) = some r := h
  clear h
  replace H := Option.bind_eq_some_iff.mp H
  obtain ⟨t180, A20, H⟩ := H
  replace H : ((lacquerref02_FromBe.f k t180).bind fun t181 => (some t181)) = some r := H
  have A2 := Aside0.mk A20
  clear A20
  replace H := Option.bind_eq_some_iff.mp H
  obtain ⟨t181, A30, H⟩ := H
  replace H : (some t181) = some r := H
  have A3 := Aside0.mk A30
  clear A30
  obtain rfl := Option.some.inj H
  go_enter Try.func22, Try.ntmps22
  go_wp2_with (first | ((with_reducible refine gate_callee (f := 25) rfl ?_); refine goesL_ (some 4) rfl rfl Try.func25 (by kernel_rfl) rfl #[.string a0] rfl (by (try simp only [List.map_toArray, List.map_cons, List.map_nil]); first | done | rfl | (simp only [List.length_drop, List.length_take]; rfl)) ?_; (with_reducible refine (lacquerref02_turned.calls k a0 t180 _ A2.out).mono ?_); rintro e w4 ⟨rfl, hb⟩; refine ⟨_, rfl, ?_⟩; have n0_ := Aside0.mk (below_step (by repeat (first | (with_reducible first | exact HB.out | apply below_alloc | apply pw_below_drewN | apply below_drew1) | exact HB.out)) hb); clear HB; have HB := n0_; clear n0_; (try clear hb); (try clear hb2); (try clear hk); (try clear hi)) | ((with_reducible refine gate_callee (f := 24) rfl ?_); refine goesL_ (some 5) rfl rfl Try.func24 (by kernel_rfl) rfl #[.string t180] rfl (by (try simp only [List.map_toArray, List.map_cons, List.map_nil]); first | done | rfl | (simp only [List.length_drop, List.length_take]; rfl)) ?_; (with_reducible refine (lacquerref02_FromBe.calls k t180 t181 _ A3.out).mono ?_); rintro e w' ⟨rfl, ⟨nd, rfl⟩⟩; refine ⟨_, rfl, ?_⟩))
  go_ret
  exact ⟨by first | rfl | (simp [errW_none, errW_some] <;> rfl) | (simp [*, errW_none, errW_some] <;> rfl), by repeat (first | (with_reducible first | exact HB.out | apply below_alloc | apply pw_below_drewN | apply below_drew1) | exact HB.out)⟩

end Go.Proofs.Ytfhkhbmpbmjlcaa.Q
