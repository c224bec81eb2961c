/- The plain laws of layer 3: linear maps of bits. -/
import Derived.Test.YtmpkomhcihgphaaHandM
namespace Go.Proofs.Ytmpkomhcihgphaa.Math
open Go.RowKit Go.Proofs.Ytmpkomhcihgphaa
set_option linter.unusedVariables false
set_option linter.unusedSimpArgs false

/-- A map of bits that keeps 'xor'. -/
def Lin {n m : Nat} (f : BitVec n → BitVec m) : Prop := ∀ x y, f (x ^^^ y) = f x ^^^ f y
theorem Lin.zero {n m : Nat} {f : BitVec n → BitVec m} (h : Lin f) : f 0#n = 0#m := by
  have := h 0#n 0#n
  simpa using this
theorem Lin.id {n : Nat} : Lin (fun x : BitVec n => x) := fun _ _ => rfl
theorem Lin.comp {n m q : Nat} {f : BitVec m → BitVec q} {g : BitVec n → BitVec m} (hf : Lin f) (hg : Lin g) : Lin (fun x => f (g x)) := fun x y => by
  show f (g (x ^^^ y)) = f (g x) ^^^ f (g y)
  rw [hg x y, hf]
theorem Lin.xor {n m : Nat} {f g : BitVec n → BitVec m} (hf : Lin f) (hg : Lin g) : Lin (fun x => f x ^^^ g x) := fun x y => by
  show f (x ^^^ y) ^^^ g (x ^^^ y) = (f x ^^^ g x) ^^^ (f y ^^^ g y)
  rw [hf x y, hg x y]
  generalize f x = a; generalize f y = b; generalize g x = c; generalize g y = d
  apply BitVec.eq_of_getLsbD_eq
  intro i hi
  simp only [BitVec.getLsbD_xor]
  cases a.getLsbD i <;> cases b.getLsbD i <;> cases c.getLsbD i <;> cases d.getLsbD i <;> rfl
theorem Lin.shl {n : Nat} (k : Nat) : Lin (fun x : BitVec n => x <<< k) := fun x y => by
  show (x ^^^ y) <<< k = x <<< k ^^^ y <<< k
  apply BitVec.eq_of_getLsbD_eq
  intro i hi
  simp only [BitVec.getLsbD_xor, BitVec.getLsbD_shiftLeft]
  cases decide (i < n) <;> cases decide (i < k) <;> simp
theorem Lin.shr {n : Nat} (k : Nat) : Lin (fun x : BitVec n => x >>> k) := fun x y => by
  show (x ^^^ y) >>> k = x >>> k ^^^ y >>> k
  apply BitVec.eq_of_getLsbD_eq
  intro i hi
  simp only [BitVec.getLsbD_xor, BitVec.getLsbD_ushiftRight]
theorem Lin.and {n : Nat} (k : BitVec n) : Lin (fun x : BitVec n => x &&& k) := fun x y => by
  show (x ^^^ y) &&& k = (x &&& k) ^^^ (y &&& k)
  apply BitVec.eq_of_getLsbD_eq
  intro i hi
  simp only [BitVec.getLsbD_xor, BitVec.getLsbD_and]
  cases k.getLsbD i <;> simp
theorem Lin.width {n : Nat} (m : Nat) : Lin (fun x : BitVec n => x.setWidth m) := fun x y => by
  show (x ^^^ y).setWidth m = x.setWidth m ^^^ y.setWidth m
  apply BitVec.eq_of_getLsbD_eq
  intro i hi
  simp only [BitVec.getLsbD_xor, BitVec.getLsbD_setWidth]
  cases decide (i < m) <;> simp
theorem Lin.bit {n m : Nat} (k : Nat) (p : BitVec m) : Lin (fun x : BitVec n => if x.getLsbD k then p else 0#m) := fun x y => by
  show (if (x ^^^ y).getLsbD k then p else 0#m) = (if x.getLsbD k then p else 0#m) ^^^ (if y.getLsbD k then p else 0#m)
  simp only [BitVec.getLsbD_xor]
  cases x.getLsbD k <;> cases y.getLsbD k <;> simp
theorem lin_upto {n m : Nat} {f g : BitVec n → BitVec m} (hf : Lin f) (hg : Lin g) (h : ∀ i : Nat, i < n → f (BitVec.twoPow n i) = g (BitVec.twoPow n i)) :
    ∀ j : Nat, ∀ x : BitVec n, (∀ i, j ≤ i → x.getLsbD i = false) → f x = g x
  | 0, x, hx => by
    have : x = 0#n := by
      apply BitVec.eq_of_getLsbD_eq
      intro i hi
      rw [hx i (Nat.zero_le _)]; simp
    rw [this, hf.zero, hg.zero]
  | j + 1, x, hx => by
    by_cases hb : x.getLsbD j = true
    · have hj : j < n := BitVec.lt_of_getLsbD hb
      have e : x = (x ^^^ BitVec.twoPow n j) ^^^ BitVec.twoPow n j := by
        rw [BitVec.xor_assoc, BitVec.xor_self, BitVec.xor_zero]
      rw [e, hf, hg, h j hj, lin_upto hf hg h j (x ^^^ BitVec.twoPow n j) (fun i hi => by
        rw [BitVec.getLsbD_xor, BitVec.getLsbD_twoPow]
        by_cases e2 : j = i
        · subst e2; simp [hb, hj]
        · simp [e2, hx i (by omega)])]
    · exact lin_upto hf hg h j x (fun i hi => by
        by_cases e2 : i = j
        · subst e2; simpa using hb
        · exact hx i (by omega))
/-- Two linear maps are one if they are on the powers of two. -/
theorem lin_ext {n m : Nat} {f g : BitVec n → BitVec m} (hf : Lin f) (hg : Lin g) (h : ∀ i : Nat, i < n → f (BitVec.twoPow n i) = g (BitVec.twoPow n i)) (x : BitVec n) : f x = g x :=
  lin_upto hf hg h n x (fun i hi => BitVec.getLsbD_of_ge x i hi)
end Go.Proofs.Ytmpkomhcihgphaa.Math
