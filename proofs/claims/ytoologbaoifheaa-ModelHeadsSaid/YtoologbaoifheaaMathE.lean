/- Plain words of layer 19: what a decoder gives. -/
import Derived.Test.YtoologbaoifheaaModD
namespace Go.Proofs.Ytoologbaoifheaa.Hand
open Go.RowKit Go.Proofs.Ytoologbaoifheaa.Q Go.Proofs.Ytoologbaoifheaa.Math Go.Proofs.YtoologbaoifheaaW.PrintWords Go.Proofs.YtoologbaoifheaaW.PrintLast Go.Proofs.YtoologbaoifheaaW.PrintMore
set_option linter.unusedVariables false
set_option linter.unusedSimpArgs false

theorem DecAt.seen {w w' : World} {B2 g gc : Nat} {d : Dec} {c : List Int} {s : Int} (hd : DecAt w g d) (hc : CntAt w gc c s) (hm : Turned B2 gc w w') : DecAt w' g d := by
  refine blk_kept hd hm.kept (fun e => ?_)
  have h1 : w.heap[g]? = _ := hd
  rw [e, hc.1] at h1
  injection h1 with h1
  injection h1 with h1 h2
  exact absurd h2 (by decide)
theorem CntAt.taken {w w' : World} {B2 g gc : Nat} {d : Dec} {c : List Int} {s : Int} (hc : CntAt w gc c s) (hd : DecAt w g d) (hm : Turned B2 g w w') : CntAt w' gc c s := by
  refine ⟨blk_kept hc.1 hm.kept (fun e => ?_), hc.2⟩
  have h1 : w.heap[g]? = _ := hd
  rw [← e, hc.1] at h1
  injection h1 with h1
  injection h1 with h1 h2
  exact absurd h2 (by decide)
theorem or_i64 (x n W : Nat) (hx : x < 2 ^ 41) (hW : W ≤ 16) (hn : n < 2 ^ W) : Go.bits .or .i64 ((x : Int) * 2 ^ W) (n : Int) = ((x * 2 ^ W + n : Nat) : Int) := by
  have hp : 2 ^ W ≤ 65536 := by
    have h := Nat.pow_le_pow_right (n := 2) (by decide) hW
    exact h
  have hp0 : 0 < 2 ^ W := Nat.pow_pos (by decide)
  have hx2 : x * 2 ^ W ≤ x * 65536 := Nat.mul_le_mul_left _ hp
  have e0 : (x : Int) * 2 ^ W = ((x * 2 ^ W : Nat) : Int) := by simp
  have e : Go.bits .or .i64 ((x * 2 ^ W : Nat) : Int) (n : Int) = IntKind.i64.wrap ((BitVec.ofInt 64 ((x * 2 ^ W : Nat) : Int) ||| BitVec.ofInt 64 (n : Int)).toNat : Int) := rfl
  have e1 : (BitVec.ofInt 64 ((x * 2 ^ W : Nat) : Int)).toNat = 2 ^ W * x := by rw [BitVec.toNat_ofInt, Nat.mul_comm (2 ^ W) x]; omega
  have e2 : (BitVec.ofInt 64 (n : Int)).toNat = n := by rw [BitVec.toNat_ofInt]; omega
  rw [e0, e, BitVec.toNat_or, e1, e2, ← Nat.two_pow_add_eq_or_of_lt hn, Nat.mul_comm (2 ^ W) x, IntKind.wrap_i64]
  omega
theorem peek_in (d : Dec) (t : Int) (h : GoodD d) (h1 : 1 ≤ t) : 0 ≤ (peekD d t).1 ∧ (peekD d t).1 ≤ t - 1 := by
  unfold peekD
  split
  · exact ⟨by decide, by simp; omega⟩
  · split
    · exact ⟨by decide, by simp; omega⟩
    · rename_i h2 h3
      have hw := h.wid0 (by simpa using h3)
      have hq : 0 ≤ d.code / (d.width / t) := Int.ediv_nonneg h.code0 (Int.ediv_nonneg (by omega) (by omega))
      show 0 ≤ (if d.code / (d.width / t) ≤ t - 1 then d.code / (d.width / t) else t - 1) ∧ (if d.code / (d.width / t) ≤ t - 1 then d.code / (d.width / t) else t - 1) ≤ t - 1
      split <;> omega
/-- The lower bits, taken in pieces. -/
def lowD : Nat → Nat → Nat → Dec → Option (Nat × Dec)
  | 0, _, u, d => some (u, d)
  | f + 1, left, u, d => if left = 0 then some (u, d) else
    if (bitsD ((left - 1) % 16 + 1 : Nat) d).2.1 = 0 then lowD f (left - ((left - 1) % 16 + 1)) (u * 2 ^ ((left - 1) % 16 + 1) + (bitsD ((left - 1) % 16 + 1 : Nat) d).1.toNat) (bitsD ((left - 1) % 16 + 1 : Nat) d).2.2 else none
/-- What is known while numbers are decoded. -/
structure Rt where
  d : Dec
  c : List Int
  s : Int
def classD (r : Rt) : Nat := findC r.c 42 0 (peekD r.d r.s).1
/-- A number taken. -/
def numD (r : Rt) : Option (Int × Rt) :=
  if (peekD r.d r.s).2 = 0 then
    if (takeD (belowC r.c (classD r)) (r.c.getD (classD r) 0) r.s r.d).1 = 0 then
      (lowD 42 (classD r - 1) (if classD r = 0 then 0 else 1) (takeD (belowC r.c (classD r)) (r.c.getD (classD r) 0) r.s r.d).2).map fun x => (unfoldM (x.1 : Int), ⟨x.2, (sawC r.c r.s (classD r)).1, (sawC r.c r.s (classD r)).2⟩)
    else none
  else none
def decs : Nat → Rt → List Int → Option (List Int × Rt)
  | 0, r, out => some (out, r)
  | k + 1, r, out => match numD r with
    | none => none
    | some (x, r') => decs k r' (out ++ [x])
/-- What Decode gives. -/
def decF (s : ByteArray) (n : Int) : List Int × Int × Int :=
  if n < 0 ∨ 16777216 < n then ([], 0, 1) else if (ofD s).bad = true then ([], 0, 2) else
    match decs n.toNat ⟨ofD s, ones, 42⟩ [] with
    | none => ([], 0, 2)
    | some (out, r) => (out, r.d.pos, 0)
end Go.Proofs.Ytoologbaoifheaa.Hand
