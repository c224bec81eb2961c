/- Contracts of layer 18, proved by hand: an encoder's Bits, New. -/
import Derived.Test.YtoologbaoifheaaHandC
namespace Go.Proofs.Ytoologbaoifheaa.Hand
open Go.RowKit Go.Proofs.Ytoologbaoifheaa.Q Go.Proofs.YtoologbaoifheaaW.PrintWords Go.Proofs.YtoologbaoifheaaW.PrintLast Go.Proofs.YtoologbaoifheaaW.PrintMore
set_option linter.unusedVariables false
set_option linter.unusedSimpArgs false

/-- A number of so many bits. -/
def bitsP (n k : Int) : Prop := 1 ≤ k ∧ k ≤ 16 ∧ 0 ≤ n ∧ n < 2 ^ k.toNat
instance (n k : Int) : Decidable (bitsP n k) := by unfold bitsP; infer_instance
theorem bits_may (n k : Int) (h : bitsP n k) : mayP n 1 (2 ^ k.toNat) := by
  obtain ⟨h1, h2, h3, h4⟩ := h
  have hp : (2 : Int) ^ k.toNat = ((2 ^ k.toNat : Nat) : Int) := by simp
  have : 2 ^ k.toNat ≤ 2 ^ 16 := Nat.pow_le_pow_right (by decide) (by omega)
  rw [hp] at h4 ⊢
  exact ⟨by omega, by omega, h3, h4, by omega, by omega⟩
def newE : Enc := ⟨0, 4294967295, 0, 1, []⟩
theorem newE_good : Good newE := ⟨by decide, by decide, by decide, by decide, by decide, by decide, by decide⟩
set_option maxHeartbeats 4000000 in
set_option maxRecDepth 100000 in
theorem New_any (w : World) : Calls Try.prog 18 #[] w fun e w' => e = .returned (.pointer (some ⟨w.heap.size, 0, none⟩)) ∧ w' = w.alloc (.cells (encCells newE (.slice none 0 0)) 82) := by
  go_enter Try.func18, Try.ntmps18
  go_wp2
  go_ret
  exact ⟨rfl, rfl⟩
theorem new_at (w : World) (B : Nat) (hB : B ≤ w.heap.size) : EncAt (w.alloc (.cells (encCells newE (.slice none 0 0)) 82)) B w.heap.size (.slice none 0 0) newE := ⟨blk_new w _, BytesAt.nil _ _, hB⟩
set_option maxHeartbeats 4000000 in
set_option maxRecDepth 100000 in
theorem Bits_no (n k : Int) (a : Option Addr) (w : World) (h : a = none ∨ ¬ bitsP n k) :
    Calls Try.prog 23 #[.pointer a, .int .i64 n, .int .i64 k] w fun e w' => e = .returned (.int .i64 1) ∧ Drawn0 w w' := by
  have hup := Try.underlying42
  rcases a with _ | a
  · clear h
    go_enter Try.func23, Try.ntmps23
    go_wp2
    go_ret
    exact ⟨rfl, Drawn0.refl _⟩
  · have hm : ¬ bitsP n k := by
      rcases h with h | h
      · cases h
      · exact h
    have HM := Aside0.mk hm
    clear h hm
    by_cases h1 : k < 1
    · go_enter Try.func23, Try.ntmps23
      go_wp2
      go_ret
      exact ⟨rfl, Drawn0.refl _⟩
    · by_cases h2 : 16 < k
      · go_enter Try.func23, Try.ntmps23
        go_wp2
        go_ret
        exact ⟨rfl, Drawn0.refl _⟩
      · by_cases h3 : n < 0
        · go_enter Try.func23, Try.ntmps23
          go_wp2
          go_ret
          exact ⟨rfl, Drawn0.refl _⟩
        · have b1 : 1 ≤ k := by omega
          have b2 : k ≤ 16 := by omega
          have b3 : 0 ≤ n := by omega
          have hq : (n / 2 ^ k.toNat != 0) = true := by
            have hpos : (0 : Int) < 2 ^ k.toNat := Int.pow_pos (by decide)
            have h4 : ¬ n < 2 ^ k.toNat := fun h => HM.out ⟨b1, b2, b3, h⟩
            have h5 := Int.ediv_le_ediv hpos (show (2 : Int) ^ k.toNat ≤ n by omega)
            rw [Int.ediv_self (by omega)] at h5
            simp only [bne_iff_ne, ne_eq]
            omega
          go_enter Try.func23, Try.ntmps23
          go_wp2
          go_ret
          exact ⟨rfl, Drawn0.refl _⟩
set_option maxHeartbeats 4000000 in
set_option maxRecDepth 100000 in
theorem Bits_yes (n k : Int) (s : Enc) (B g : Nat) (v : Value) (w : World) (h : EncAt w B g v s) (hg : Good s) (hw : 16777216 ≤ s.width) (hb : bitsP n k) (hl : sizeE s + 4 < 140737488355328) :
    Calls Try.prog 23 #[.pointer (some ⟨g, 0, none⟩), .int .i64 n, .int .i64 k] w fun e w' => e = .returned (.int .i64 0) ∧ ∃ v', EncAt w' B g v' (putE n 1 (2 ^ k.toNat) s) ∧ Moved B g w v w' v' := by
  have hup := Try.underlying42
  have hp := Put_yes n 1 (2 ^ k.toNat) s B g v w h hg hw (bits_may n k hb) hl
  obtain ⟨b1, b2, b3, b4⟩ := hb
  have hle : (2 : Int) ^ k.toNat ≤ 65536 := by
    have h1 : (2 : Int) ^ k.toNat = ((2 ^ k.toNat : Nat) : Int) := by simp
    have h2 : 2 ^ k.toNat ≤ 2 ^ 16 := Nat.pow_le_pow_right (by decide) (by omega)
    rw [h1]
    omega
  have hpos : (0 : Int) < 2 ^ k.toNat := Int.pow_pos (by decide)
  have hq : (n / 2 ^ k.toNat != 0) = false := by
    rw [Int.ediv_eq_zero_of_lt b3 b4]
    rfl
  have hwp : wrap64 (2 ^ k.toNat) = 2 ^ k.toNat := wrap_id _ (by omega) (by omega)
  obtain ⟨t, ht⟩ : ∃ t : Int, 2 ^ k.toNat = t := ⟨_, rfl⟩
  rw [ht] at hp hwp b4 hle hpos
  have hwp2 : wrap64 (2 ^ k.toNat) = t := by rw [ht]; exact hwp
  have HP := Aside0.mk hp
  have HT := Aside0.mk ht
  clear hp hwp ht b4
  go_enter Try.func23, Try.ntmps23
  go_wp2_with fail
  refine HP.out.mono ?_
  rintro e w1 ⟨rfl, v1, hE, hM⟩
  have HE := Aside0.mk hE
  have HM := Aside0.mk hM
  clear hE hM
  go_wp2
  go_ret
  rw [HT.out]
  exact ⟨rfl, v1, HE.out, HM.out⟩
end Go.Proofs.Ytoologbaoifheaa.Hand
