/- Contracts of layer 18, proved by hand: a decoder's Take. -/
import Derived.Test.YtoologbaoifheaaHandG
namespace Go.Proofs.Ytoologbaoifheaa.Hand
open Go.RowKit Go.Proofs.Ytoologbaoifheaa.Q Go.Proofs.YtoologbaoifheaaW.PrintWords Go.Proofs.YtoologbaoifheaaW.PrintLast Go.Proofs.YtoologbaoifheaaW.PrintMore
set_option linter.unusedVariables false
set_option linter.unusedSimpArgs false

def byteD (d : Dec) : Dec := { d with width := d.width * 256, code := d.code % 16777216 * 256 + bt d.s d.pos, pos := d.pos + 1 }
/-- On to a wide range: the error, and the decoder. -/
def normD : Nat → Dec → Int × Dec
  | 0, d => (0, d)
  | k + 1, d => if d.width / 16777216 = 0 then (if d.pos = d.s.size then (2, { d with bad := true }) else normD k (byteD d)) else (0, d)
def partD (f n t : Int) (d : Dec) : Dec := { d with code := d.code - d.width / t * f, width := d.width / t * n }
def takeD (f n t : Int) (d : Dec) : Int × Dec :=
  if mayP f n t then (if d.bad = true then (2, d) else if (peekD d t).1 < f ∨ n ≤ (peekD d t).1 - f then (2, d) else normD 3 (partD f n t d)) else (1, d)
theorem normD_stop (k : Nat) (d : Dec) (h : ¬ d.width / 16777216 = 0) : normD k d = (0, d) := by
  cases k with
  | zero => rfl
  | succ k => rw [normD, if_neg h]
/-- A decoder within its calls. -/
structure MidD (d : Dec) : Prop where
  code0 : 0 ≤ d.code
  code1 : d.code < 4294967296
  wid0 : 1 ≤ d.width
  wid1 : d.width < 4294967296
  pos0 : 0 ≤ d.pos
  pos1 : d.pos ≤ d.s.size
  fine : d.bad = false
theorem byteD_mid (d : Dec) (h : MidD d) (hw : d.width / 16777216 = 0) (hp : ¬ d.pos = d.s.size) : MidD (byteD d) := by
  obtain ⟨a, b, c, e, f, g, i⟩ := h
  have hb := bt_lt d.s d.pos
  exact ⟨show 0 ≤ d.code % 16777216 * 256 + bt d.s d.pos by omega, show d.code % 16777216 * 256 + bt d.s d.pos < 4294967296 by omega, show 1 ≤ d.width * 256 by omega, show d.width * 256 < 4294967296 by omega, show 0 ≤ d.pos + 1 by omega, show d.pos + 1 ≤ (d.s.size : Int) by omega, i⟩
theorem peek_le (d : Dec) (f n t : Int) (h : GoodD d) (hb : d.bad = false) (hm : mayP f n t) (h1 : ¬ ((peekD d t).1 < f ∨ n ≤ (peekD d t).1 - f)) : d.width / t * f ≤ d.code := by
  obtain ⟨m1, m2, m3, m4, m5, m6⟩ := hm
  have hw := h.wid0 hb
  have k0 := h.code0
  have r0 : 1 ≤ d.width / t := by
    have := Int.ediv_le_ediv (show (0 : Int) < t by omega) (show t ≤ d.width by omega)
    rwa [Int.ediv_self (by omega)] at this
  have hpk : (peekD d t).1 ≤ d.code / (d.width / t) := by
    unfold peekD
    rw [if_neg (by omega), if_neg (by rw [hb]; decide)]
    show (if d.code / (d.width / t) ≤ t - 1 then d.code / (d.width / t) else t - 1) ≤ _
    split <;> omega
  have hf : f ≤ d.code / (d.width / t) := by omega
  have h2 := Int.mul_le_mul_of_nonneg_left hf (show 0 ≤ d.width / t by omega)
  have h3 := Int.mul_ediv_self_le (x := d.code) (k := d.width / t) (by omega)
  omega
theorem partD_mid (d : Dec) (f n t : Int) (h : GoodD d) (hb : d.bad = false) (hm : mayP f n t) (h1 : ¬ ((peekD d t).1 < f ∨ n ≤ (peekD d t).1 - f)) : MidD (partD f n t d) := by
  have hle := peek_le d f n t h hb hm h1
  obtain ⟨m1, m2, m3, m4, m5, m6⟩ := hm
  have hw := h.wid0 hb
  have k0 := h.code0
  have k1 := h.code1
  have w1 := h.wid1
  have r0 : 1 ≤ d.width / t := by
    have := Int.ediv_le_ediv (show (0 : Int) < t by omega) (show t ≤ d.width by omega)
    rwa [Int.ediv_self (by omega)] at this
  have r1 : d.width / t * t ≤ d.width := Int.ediv_mul_le _ (by omega)
  have r2 : d.width / t * n ≤ d.width / t * t := Int.mul_le_mul_of_nonneg_left (by omega) (by omega)
  have r3 : 0 ≤ d.width / t * f := Int.mul_nonneg (by omega) m3
  have r4 : d.width / t * 1 ≤ d.width / t * n := Int.mul_le_mul_of_nonneg_left m5 (by omega)
  exact ⟨show 0 ≤ d.code - d.width / t * f by omega, show d.code - d.width / t * f < 4294967296 by omega, show 1 ≤ d.width / t * n by omega, show d.width / t * n < 4294967296 by omega, h.pos0, h.pos1, hb⟩
theorem normD_good : ∀ (k : Nat) (d : Dec), MidD d → 16777216 ≤ d.width * 256 ^ k → GoodD (normD k d).2
  | 0, d, h, hk => ⟨h.code0, h.code1, fun _ => by show 16777216 ≤ d.width; simpa using hk, h.wid1, h.pos0, h.pos1⟩
  | k + 1, d, h, hk => by
    by_cases hw : d.width / 16777216 = 0
    · by_cases hp : d.pos = d.s.size
      · rw [normD, if_pos hw, if_pos hp]
        exact ⟨h.code0, h.code1, fun e => Bool.noConfusion e, h.wid1, h.pos0, h.pos1⟩
      · rw [normD, if_pos hw, if_neg hp]
        refine normD_good k _ (byteD_mid d h hw hp) ?_
        show 16777216 ≤ d.width * 256 * 256 ^ k
        rw [Int.mul_assoc, Int.mul_comm 256, ← Int.pow_succ]
        exact hk
    · rw [normD, if_neg hw]
      exact ⟨h.code0, h.code1, fun _ => by show 16777216 ≤ d.width; have := h.wid0; omega, h.wid1, h.pos0, h.pos1⟩
theorem takeD_good (d : Dec) (f n t : Int) (h : GoodD d) : GoodD (takeD f n t d).2 := by
  unfold takeD
  split
  · rename_i hm
    split
    · exact h
    · rename_i hb
      split
      · exact h
      · rename_i h1
        have hm2 := partD_mid d f n t h (by simpa using hb) hm h1
        exact normD_good 3 _ hm2 (by have := hm2.wid0; omega)
  · exact h
set_option maxHeartbeats 4000000 in
set_option maxRecDepth 100000 in
theorem Take_nil (f n t : Int) (w : World) : Calls Try.prog 50 #[.pointer none, .int .i64 f, .int .i64 n, .int .i64 t] w fun e w' => e = .returned (.int .i64 1) ∧ Drawn0 w w' := by
  have hup := Try.underlying67
  go_enter Try.func50, Try.ntmps50
  go_wp2
  go_ret
  exact ⟨rfl, Drawn0.refl _⟩
set_option maxHeartbeats 4000000 in
set_option maxRecDepth 100000 in
theorem Take_no (d : Dec) (f n t : Int) (hm : ¬ mayP f n t) (B g : Nat) (hB : B ≤ g) (w : World) (h : DecAt w g d) :
    Calls Try.prog 50 #[.pointer (some ⟨g, 0, none⟩), .int .i64 f, .int .i64 n, .int .i64 t] w fun e w' => e = .returned (.int .i64 1) ∧ DecAt w' g d ∧ Turned B g w w' := by
  have hup := Try.underlying67
  have HM := Aside0.mk hm
  have HD := Aside0.mk h
  clear hm h
  go_enter Try.func50, Try.ntmps50
  go_wp2_with fail
  refine (may_no f n t HM.out _).mono ?_
  rintro e w1 ⟨rfl, ⟨m, rfl⟩⟩
  go_wp2
  go_ret
  exact ⟨rfl, HD.out.below (pw_below_drewN (Below.refl _ _) m), (Turned.refl B g w).drewN m⟩
end Go.Proofs.Ytoologbaoifheaa.Hand
