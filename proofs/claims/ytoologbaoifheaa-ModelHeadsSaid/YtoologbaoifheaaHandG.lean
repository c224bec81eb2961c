/- Contracts of layer 18, proved by hand: a decoder of a text. -/
import Derived.Test.YtoologbaoifheaaHandF
namespace Go.Proofs.Ytoologbaoifheaa.Hand
open Go.RowKit Go.Proofs.Ytoologbaoifheaa.Q Go.Proofs.YtoologbaoifheaaW.PrintWords Go.Proofs.YtoologbaoifheaaW.PrintLast Go.Proofs.YtoologbaoifheaaW.PrintMore
set_option linter.unusedVariables false
set_option linter.unusedSimpArgs false

theorem bt_lt (s : ByteArray) (i : Int) : 0 ≤ bt s i ∧ bt s i < 256 := by
  unfold bt
  split
  · have := (s[i.toNat]).toNat_lt
    omega
  · omega
theorem bt_at (s : ByteArray) (k : Nat) (h : k < s.size) : ((s[k]'h).toNat : Int) = bt s (k : Nat) := by
  unfold bt
  simp [h]
/-- The first bytes behind the first one, as a number. -/
def codeTo (s : ByteArray) : Nat → Int
  | 0 => 0
  | k + 1 => codeTo s k * 256 + bt s ((k + 1 : Nat) : Int)
theorem codeTo_lt (s : ByteArray) : ∀ k, 0 ≤ codeTo s k ∧ codeTo s k < 256 ^ k
  | 0 => by
    show (0 : Int) ≤ 0 ∧ (0 : Int) < 256 ^ 0
    decide
  | k + 1 => by
    have h := codeTo_lt s k
    have hb := bt_lt s ((k + 1 : Nat) : Int)
    rw [codeTo, Int.pow_succ]
    omega
theorem ofD_bad (s : ByteArray) (h : s.size < 5 ∨ ¬ bt s 0 = 0) : ofD s = ⟨s, 0, 0, 4294967295, true⟩ := if_pos h
theorem ofD_good (s : ByteArray) (h : ¬ (s.size < 5 ∨ ¬ bt s 0 = 0)) : ofD s = ⟨s, 5, codeTo s 4, 4294967295, false⟩ := by
  unfold ofD
  rw [if_neg h]
  simp [codeTo]
theorem ofD_ok (s : ByteArray) : GoodD (ofD s) := by
  by_cases h : s.size < 5 ∨ ¬ bt s 0 = 0
  · rw [ofD_bad s h]
    exact ⟨(by decide : (0 : Int) ≤ 0), (by decide : (0 : Int) < 4294967296), fun h => Bool.noConfusion h, (by decide : (4294967295 : Int) < 4294967296), (by decide : (0 : Int) ≤ 0), Int.natCast_nonneg _⟩
  · rw [ofD_good s h]
    have := codeTo_lt s 4
    exact ⟨this.1, this.2, fun _ => (by decide : (16777216 : Int) ≤ 4294967295), (by decide : (4294967295 : Int) < 4294967296), (by decide : (0 : Int) ≤ 5), show (5 : Int) ≤ s.size by omega⟩
set_option maxHeartbeats 4000000 in
set_option maxRecDepth 100000 in
theorem Of_any (s : ByteArray) (hs : s.size ≤ 9223372036854775807) (B : Nat) (w : World) (hB : B ≤ w.heap.size) :
    Calls Try.prog 35 #[.string s] w fun e w' => ∃ g, e = .returned (.pointer (some ⟨g, 0, none⟩)) ∧ w.heap.size ≤ g ∧ DecAt w' g (ofD s) ∧ Below w.heap.size w w' := by
  have hup := Try.underlying67
  by_cases hbad : s.size < 5 ∨ ¬ bt s 0 = 0
  · have HO := Aside0.mk (ofD_bad s hbad)
    have HN : Aside0 (DecAt (w.alloc (.cells (decCells ⟨s, 0, 0, 4294967295, true⟩) 89)) w.heap.size ⟨s, 0, 0, 4294967295, true⟩) := ⟨blk_new w _⟩
    have HBW := Aside0.mk ((Below.refl w.heap.size w).alloc (Nat.le_refl _) (.cells (decCells ⟨s, 0, 0, 4294967295, true⟩) 89))
    rcases Nat.lt_or_ge s.size 5 with h5 | h5
    · have h5' : (s.size : Int) < 5 := by omega
      clear hbad
      go_enter Try.func35, Try.ntmps35
      go_wp2
      go_ret
      rw [HO.out]
      exact ⟨_, rfl, Nat.le_refl _, HN.out, HBW.out⟩
    · have h5' : ¬ (s.size : Int) < 5 := by omega
      have h6 : (0 : Int) < (s.size : Int) := by omega
      have hb0 : ¬ bt s 0 = 0 := by
        rcases hbad with h | h
        · omega
        · exact h
      have hbt := bt_at s 0 (by omega)
      rw [show ((0 : Nat) : Int) = 0 from rfl] at hbt
      have hbb : (bt s 0 == 0) = false := by simp [hb0]
      have hbc : (bt s 0 != 0) = true := by simp [hb0]
      clear hbad
      go_enter Try.func35, Try.ntmps35
      go_wp2
      go_ret
      rw [HO.out]
      exact ⟨_, rfl, Nat.le_refl _, HN.out, HBW.out⟩
  · have HO := Aside0.mk (ofD_good s hbad)
    have hsz : 5 ≤ s.size := by omega
    have h5 : ¬ (s.size : Int) < 5 := by omega
    have h6 : (0 : Int) < (s.size : Int) := by omega
    have hl0 : 0 < s.size := by omega
    have hbt := bt_at s 0 hl0
    rw [show bt s ((0 : Nat) : Int) = 0 from Decidable.byContradiction (fun h => hbad (.inr h))] at hbt
    have HN : Aside0 (DecAt (w.alloc (.cells (decCells ⟨s, 1, 0, 4294967295, false⟩) 89)) w.heap.size ⟨s, 1, 0, 4294967295, false⟩) := ⟨blk_new w _⟩
    have HBW := Aside0.mk ((Below.refl w.heap.size w).alloc (Nat.le_refl _) (.cells (decCells ⟨s, 1, 0, 4294967295, false⟩) 89))
    clear hbad
    go_enter Try.func35, Try.ntmps35
    go_wp2
    clear hbt
    go_loopg [] 4 (fun k wr => ∃ (d : Nat), d + k = 4 ∧ Aside0 (DecAt wr w.heap.size ⟨s, ((d + 1 : Nat) : Int), codeTo s d, 4294967295, false⟩) ∧ Aside0 (Below w.heap.size w wr))
    case atStart => exact ⟨0, rfl, HN, HBW⟩
    case round =>
      obtain ⟨d, hd, HD, HB⟩ := hrel
      have c1 : wr.cell? ⟨w.heap.size, 1, none⟩ = some (.int .i64 ((d + 1 : Nat) : Int)) := HD.out.cell 1
      have c2 : wr.cell? ⟨w.heap.size, 2, none⟩ = some (.int .u32 (codeTo s d)) := HD.out.cell 2
      have f1 : wr.frozen? ⟨w.heap.size, 1, none⟩ = false := blk_frozen HD.out 1
      have f2 : wr.frozen? ⟨w.heap.size, 2, none⟩ = false := blk_frozen HD.out 2
      by_cases hlt : d < 4
      · obtain ⟨m, hm⟩ : ∃ m, d + 1 = m := ⟨_, rfl⟩
        rw [hm] at c1
        have HM := Aside0.mk hm
        have i1 : (m : Int) < 5 := by omega
        have i2 : (m : Int) < (s.size : Int) := by omega
        have i3 : m < s.size := by omega
        have hbt := bt_at s m i3
        have hbl := bt_lt s (m : Nat)
        have hcl := codeTo_lt s d
        have hpl : (256 : Int) ^ d ≤ 256 ^ 3 := by
          have h1 : 256 ^ d ≤ 256 ^ 3 := Nat.pow_le_pow_right (by decide) (by omega)
          have h2 : (256 : Int) ^ d = ((256 ^ d : Nat) : Int) := by simp
          omega
        have hor := or_low (codeTo s d) (bt s (m : Nat)) hcl.1 (by omega) hbl.1 hbl.2
        have e1 : codeTo s (d + 1) = codeTo s d * 256 + bt s (m : Nat) := by rw [codeTo, hm]
        have HE := Aside0.mk e1
        obtain ⟨x, hx⟩ : ∃ x, codeTo s d = x := ⟨_, rfl⟩
        obtain ⟨y, hy⟩ : ∃ y, bt s (m : Nat) = y := ⟨_, rfl⟩
        rw [hx] at hor c2 HE HD
        rw [hy] at hor hbt HE
        have y0 : 0 ≤ y := by rw [← hy]; exact hbl.1
        have y1 : y < 256 := by rw [← hy]; exact hbl.2
        have x0 : 0 ≤ x := by rw [← hx]; exact hcl.1
        have x1 : x < 16777216 := by rw [← hx]; omega
        have hw8 : IntKind.u32.wrap (x * 256) = x * 256 := by rw [u32_wrap]; omega
        have HDK := Aside0.mk hd
        clear hx hy hbl hcl hpl e1 hm hd
        go_wp2
        go_still_tail 16, (by kernel_rfl)
        have HD2 : Aside0 (DecAt wr.drew w.heap.size ⟨s, ((d + 1 : Nat) : Int), x, 4294967295, false⟩) := ⟨HD.out.below (below_drew (Below.refl _ _))⟩
        have HB2 : Aside0 (Below w.heap.size w wr.drew) := ⟨below_drew HB.out⟩
        have d1 : wr.drew.cell? ⟨w.heap.size, 1, none⟩ = some (.int .i64 (m : Int)) := c1
        have d2 : wr.drew.cell? ⟨w.heap.size, 2, none⟩ = some (.int .u32 x) := c2
        have g1 : wr.drew.frozen? ⟨w.heap.size, 1, none⟩ = false := f1
        have g2 : wr.drew.frozen? ⟨w.heap.size, 2, none⟩ = false := f2
        clear c1 c2 f1 f2 HD HB
        change wpList _ _ _ _ _ wr.drew
        generalize wr.drew = wz at HD2 HB2 d1 d2 g1 g2 ⊢
        go_wp2
        go_roundg (gk - 1)
        case measure => have := HDK.out; omega
        case rel =>
          refine ⟨d + 1, by have := HDK.out; omega, ⟨(HD2.out.set (d' := ⟨s, ((d + 1 : Nat) : Int), codeTo s (d + 1), 4294967295, false⟩) 2 _ ?_).set 1 _ ?_⟩, ⟨(HB2.out.setCell (Nat.le_refl _) _).setCell (Nat.le_refl _) _⟩⟩
          · rw [HE.out]; rfl
          · simp [decCells, ← HM.out]
      · obtain rfl : d = 4 := by omega
        go_wp2
        go_ret
        rw [HO.out]
        exact ⟨_, rfl, Nat.le_refl _, HD.out, HB.out⟩
end Go.Proofs.Ytoologbaoifheaa.Hand
