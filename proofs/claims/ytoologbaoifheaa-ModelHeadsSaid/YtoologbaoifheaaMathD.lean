/- Plain words of layer 19: counts that fit, what an encoder does with a number. -/
import Derived.Test.YtoologbaoifheaaMathM
import Derived.Test.YtoologbaoifheaaMathC
namespace Go.Proofs.Ytoologbaoifheaa.Math
open Go.RowKit Go.Proofs.Ytoologbaoifheaa.Hand Go.Proofs.YtoologbaoifheaaW.PrintWords Go.Proofs.YtoologbaoifheaaW.PrintLast Go.Proofs.YtoologbaoifheaaW.PrintMore
set_option linter.unusedVariables false
set_option linter.unusedSimpArgs false

structure CountsOk (c : List Int) (s : Int) : Prop where
  len : c.length = 42
  one : ∀ i, i < 42 → 1 ≤ c.getD i 0
  sum : belowC c 42 = s
  top : s ≤ 32768
theorem below_mono (c : List Int) (h : ∀ i, i < 42 → 1 ≤ c.getD i 0) : ∀ d i, i + d ≤ 42 → belowC c i + d ≤ belowC c (i + d)
  | 0, i, _ => by simp
  | d + 1, i, hd => by
    have h1 := below_mono c h d i (by omega)
    have h2 := h (i + d) (by omega)
    rw [← Nat.add_assoc]
    simp only [belowC]
    omega
theorem CountsOk.at {c : List Int} {s : Int} (h : CountsOk c s) (i : Nat) (hi : i < 42) : (i : Int) ≤ belowC c i ∧ 1 ≤ c.getD i 0 ∧ belowC c i + c.getD i 0 + (41 - i : Nat) ≤ s := by
  have h1 := below_mono c h.one i 0 (by omega)
  have h2 := below_mono c h.one (41 - i) (i + 1) (by omega)
  rw [Nat.zero_add] at h1
  rw [show i + 1 + (41 - i) = 42 by omega, h.sum] at h2
  simp only [belowC] at h1 h2
  have := h.one i hi
  exact ⟨by omega, this, by omega⟩
theorem CountsOk.small {c : List Int} {s : Int} (h : CountsOk c s) : Small c := by
  intro i
  by_cases hi : i < 42
  · have := h.at i hi
    have := h.top
    omega
  · rw [List.getD_eq_getElem?_getD, List.getElem?_eq_none (by rw [h.len]; omega)]
    decide
theorem CountsOk.part {c : List Int} {s : Int} (h : CountsOk c s) (k : Nat) (hk : k < 42) : mayP (belowC c k) (c.getD k 0) s := by
  have h1 := h.at k hk
  have h2 := h.top
  exact ⟨by omega, by omega, by omega, by omega, by omega, by omega⟩
theorem getD_set (c : List Int) (x i : Nat) (y : Int) (hx : x < c.length) : (c.set x y).getD i 0 = if x = i then y else c.getD i 0 := by
  rw [List.getD_eq_getElem?_getD]
  by_cases e : x = i
  · subst e
    rw [List.getElem?_set_self hx, if_pos rfl]
    rfl
  · rw [List.getElem?_set_ne e, if_neg e, List.getD_eq_getElem?_getD]
theorem below_set (c : List Int) (x : Nat) (y : Int) (hx : x < c.length) : ∀ i, belowC (c.set x y) i = belowC c i + (if x < i then y - c.getD x 0 else 0)
  | 0 => by simp [belowC]
  | i + 1 => by
    simp only [belowC]
    rw [below_set c x y hx i, getD_set c x i y hx]
    by_cases e : x = i
    · subst e
      rw [if_pos rfl, if_neg (by omega), if_pos (by omega)]
      omega
    · by_cases h2 : x < i
      · rw [if_neg e, if_pos h2, if_pos (by omega)]
        omega
      · rw [if_neg e, if_neg h2, if_neg (by omega)]
        omega
theorem getD_half (c : List Int) (i : Nat) : (c.map (fun x => (x + 1) / 2)).getD i 0 = (c.getD i 0 + 1) / 2 := by
  rw [List.getD_eq_getElem?_getD, List.getElem?_map, List.getD_eq_getElem?_getD]
  cases c[i]? with
  | none => decide
  | some y => rfl
theorem below_half (c : List Int) : ∀ i : Nat, 2 * belowC (c.map (fun x => (x + 1) / 2)) i ≤ belowC c i + i
  | 0 => by simp [belowC]
  | i + 1 => by
    have := below_half c i
    simp only [belowC]
    rw [getD_half]
    omega
theorem CountsOk.saw {c : List Int} {s : Int} (h : CountsOk c s) (x : Nat) (hx : x < 42) : CountsOk (sawC c s x).1 (sawC c s x).2 := by
  have hl : x < c.length := by rw [h.len]; exact hx
  have h0 := h.at x hx
  have hsum : belowC (c.set x (c.getD x 0 + 32)) 42 = s + 32 := by
    rw [below_set c x _ hl 42, if_pos hx, h.sum]
    omega
  have hone : ∀ i, i < 42 → 1 ≤ (c.set x (c.getD x 0 + 32)).getD i 0 := by
    intro i hi
    rw [getD_set c x i _ hl]
    split
    · omega
    · exact h.one i hi
  unfold sawC
  by_cases hle : s + 32 ≤ 32768
  · rw [if_pos hle]
    exact ⟨by rw [List.length_set]; exact h.len, hone, hsum, hle⟩
  · rw [if_neg hle]
    refine ⟨by rw [List.length_map, List.length_set]; exact h.len, fun i hi => ?_, rfl, ?_⟩
    · have h1 := hone i hi
      show 1 ≤ ((c.set x (c.getD x 0 + 32)).map (fun x => (x + 1) / 2)).getD i 0
      rw [getD_half]
      omega
    · have h1 := below_half (c.set x (c.getD x 0 + 32)) 42
      rw [hsum] at h1
      have := h.top
      show belowC ((c.set x (c.getD x 0 + 32)).map (fun x => (x + 1) / 2)) 42 ≤ 32768
      omega
theorem begun_ok : CountsOk ones 42 := ⟨by decide, by decide, by decide, by decide⟩
/-- The lower bits in pieces of 16 at the most, the odd piece first. -/
def lowE (u : Nat) : Nat → Nat → Enc → Enc
  | 0, _, E => E
  | f + 1, left, E => if left = 0 then E else lowE u f (left - ((left - 1) % 16 + 1)) (putE ((u / 2 ^ (left - ((left - 1) % 16 + 1)) % 2 ^ ((left - 1) % 16 + 1) : Nat) : Int) 1 (2 ^ ((left - 1) % 16 + 1)) E)
/-- What is known while numbers are encoded. -/
structure St where
  e : Enc
  c : List Int
  s : Int
def numU (n : Int) : Nat := (foldM n).toNat
def stepS (t : St) (n : Int) : St :=
  ⟨lowE (numU n) 42 (blen (numU n) - 1) (putE (belowC t.c (blen (numU n))) (t.c.getD (blen (numU n)) 0) t.s t.e), (sawC t.c t.s (blen (numU n))).1, (sawC t.c t.s (blen (numU n))).2⟩
def runS (l : List Int) : St := l.foldl stepS ⟨newE, ones, 42⟩
theorem runS_snoc (l : List Int) (n : Int) : runS (l ++ [n]) = stepS (runS l) n := by simp [runS]
def inB (n : Int) : Prop := -1099511627776 ≤ n ∧ n < 1099511627776
instance (n : Int) : Decidable (inB n) := by unfold inB; infer_instance
theorem numU_lt (n : Int) (h : inB n) : numU n < 2 ^ 41 ∧ (foldM n) = (numU n : Int) := by
  unfold numU foldM wrap64 inB at *
  split <;> omega
theorem class_lt (n : Int) (h : inB n) : blen (numU n) < 42 := by
  have := blen_le _ 41 (numU_lt n h).1
  omega
/-- An encoder that fits, with counts that fit; so many bytes at the most. -/
structure StOk (t : St) (m : Nat) : Prop where
  fit : Fits t.e
  wid : 16777216 ≤ t.e.width
  cnt : CountsOk t.c t.s
  size : sizeE t.e ≤ m
theorem low_piece (u left : Nat) (hl : 0 < left) : bitsP ((u / 2 ^ (left - ((left - 1) % 16 + 1)) % 2 ^ ((left - 1) % 16 + 1) : Nat) : Int) (((left - 1) % 16 + 1 : Nat) : Int) := by
  refine ⟨by omega, by omega, by omega, ?_⟩
  rw [Int.toNat_natCast]
  have := Nat.mod_lt (u / 2 ^ (left - ((left - 1) % 16 + 1))) (Nat.pow_pos (n := (left - 1) % 16 + 1) (by decide : 0 < 2))
  exact_mod_cast this
theorem put_ok {E : Enc} {m : Nat} (f n t : Int) (h : Fits E) (hw : 16777216 ≤ E.width) (hs : sizeE E ≤ m) (hm : mayP f n t) : Fits (putE f n t E) ∧ 16777216 ≤ (putE f n t E).width ∧ sizeE (putE f n t E) ≤ m + 3 := by
  obtain ⟨h1, h2, _⟩ := put_fits f n t E h hw hm
  have := putE_size f n t E h.good.count
  exact ⟨h1, h2, by omega⟩
theorem low_ok (u : Nat) : ∀ (f left : Nat) (E : Enc) (m : Nat), Fits E → 16777216 ≤ E.width → sizeE E ≤ m → Fits (lowE u f left E) ∧ 16777216 ≤ (lowE u f left E).width ∧ sizeE (lowE u f left E) ≤ m + 3 * f
  | 0, left, E, m, h, hw, hs => ⟨h, hw, by simpa [lowE] using hs⟩
  | f + 1, left, E, m, h, hw, hs => by
    unfold lowE
    by_cases h0 : left = 0
    · rw [if_pos h0]
      exact ⟨h, hw, by omega⟩
    · rw [if_neg h0]
      have hb := bits_may _ _ (low_piece u left (by omega))
      rw [Int.toNat_natCast] at hb
      obtain ⟨h1, h2, h3⟩ := put_ok _ 1 (2 ^ ((left - 1) % 16 + 1)) h hw hs hb
      obtain ⟨h4, h5, h6⟩ := low_ok u f (left - ((left - 1) % 16 + 1)) _ (m + 3) h1 h2 h3
      exact ⟨h4, h5, by omega⟩
theorem step_ok {t : St} {m : Nat} (h : StOk t m) (n : Int) (hn : inB n) : StOk (stepS t n) (m + 129) := by
  have hk := class_lt n hn
  obtain ⟨h1, h2, h3⟩ := put_ok _ _ _ h.fit h.wid h.size (h.cnt.part _ hk)
  obtain ⟨h4, h5, h6⟩ := low_ok (numU n) 42 (blen (numU n) - 1) _ (m + 3) h1 h2 h3
  exact ⟨h4, h5, h.cnt.saw _ hk, by unfold stepS; omega⟩
theorem start_ok : StOk ⟨newE, ones, 42⟩ 1 := ⟨new_fits, by decide, begun_ok, by decide⟩
theorem run_ok (l : List Int) (h : ∀ n ∈ l, inB n) : StOk (runS l) (1 + 129 * l.length) := by
  suffices ∀ (l : List Int) (t : St) (m : Nat), StOk t m → (∀ n ∈ l, inB n) → StOk (l.foldl stepS t) (m + 129 * l.length) from this l _ 1 start_ok h
  intro l
  induction l with
  | nil => intro t m ht _; simpa using ht
  | cons x l ih =>
    intro t m ht hl
    have h1 := ih (stepS t x) (m + 129) (step_ok ht x (hl x (by simp))) (fun n hn => hl n (by simp [hn]))
    rw [List.length_cons, show m + 129 * (l.length + 1) = m + 129 + 129 * l.length by omega]
    exact h1
end Go.Proofs.Ytoologbaoifheaa.Math
