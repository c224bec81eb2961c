/- Plain words of layer 17: steps, chains, and that each way undoes the other. -/
import Derived.Test.YteljaikpechbmaaHandC
namespace Go.Proofs.Yteljaikpechbmaa.Hand
open Go.RowKit Go.Proofs.YteljaikpechbmaaW.PrintWords
set_option linter.unusedVariables false
set_option linter.unusedSimpArgs false

/-- A step: its weights (the first step has none), the numbers it saw, the newest first. -/
structure Step where
  W : List Int
  S : List Int
def Step.seen (s : Step) (i : Nat) : Int := s.S.getD i 0
def Step.tell (s : Step) : Int := if s.W.length = 0 then s.seen 0 * 31 / 32 else fsum s.W s.seen s.W.length / 8192
def Step.see (s : Step) (x l : Int) : Step := ⟨wsee s.W s.seen l s.W.length, x :: s.S.dropLast⟩
def fwd : List Step → Int → List Step × Int
  | [], x => ([], x)
  | s :: r, x => (s.see x (wrap32 (x - s.tell)) :: (fwd r (wrap32 (x - s.tell))).1, (fwd r (wrap32 (x - s.tell))).2)
def inv : List Step → Int → List Step × Int
  | [], x => ([], x)
  | s :: r, x => (s.see (wrap32 ((inv r x).2 + s.tell)) (inv r x).2 :: (inv r x).1, wrap32 ((inv r x).2 + s.tell))
theorem fwd_snoc (s : Step) : ∀ (p : List Step) (x : Int), fwd (p ++ [s]) x = ((fwd p x).1 ++ [s.see (fwd p x).2 (wrap32 ((fwd p x).2 - s.tell))], wrap32 ((fwd p x).2 - s.tell))
  | [], x => rfl
  | q :: p, x => by
    rw [List.cons_append, fwd, fwd_snoc s p]
    rfl
theorem fwd_length : ∀ (p : List Step) (x : Int), (fwd p x).1.length = p.length
  | [], x => rfl
  | q :: p, x => by rw [fwd, List.length_cons, fwd_length p, List.length_cons]
theorem inv_length : ∀ (p : List Step) (x : Int), (inv p x).1.length = p.length
  | [], x => rfl
  | q :: p, x => by rw [inv, List.length_cons, inv_length p, List.length_cons]
theorem wrap32_in (x : Int) : -2147483648 ≤ wrap32 x ∧ wrap32 x ≤ 2147483647 := by unfold wrap32; omega
theorem wrap32_id (x : Int) (h : -2147483648 ≤ x ∧ x ≤ 2147483647) : wrap32 x = x := by unfold wrap32; omega
theorem wrap32_undo (x p : Int) (h : -2147483648 ≤ x ∧ x ≤ 2147483647) : wrap32 (wrap32 (x - p) + p) = x := by unfold wrap32; omega
theorem wrap32_redo (x p : Int) (h : -2147483648 ≤ x ∧ x ≤ 2147483647) : wrap32 (wrap32 (x + p) - p) = x := by unfold wrap32; omega
theorem inv_fwd : ∀ (st : List Step) (x : Int), (-2147483648 ≤ x ∧ x ≤ 2147483647) → inv st (fwd st x).2 = ((fwd st x).1, x)
  | [], x, _ => rfl
  | s :: r, x, h => by
    rw [fwd, inv]
    have ih := inv_fwd r (wrap32 (x - s.tell)) (wrap32_in _)
    rw [ih, wrap32_undo x s.tell h]
theorem fwd_inv : ∀ (st : List Step) (x : Int), (-2147483648 ≤ x ∧ x ≤ 2147483647) → fwd st (inv st x).2 = ((inv st x).1, x)
  | [], x, _ => rfl
  | s :: r, x, h => by
    have ih := fwd_inv r x h
    have hx : -2147483648 ≤ (inv r x).2 ∧ (inv r x).2 ≤ 2147483647 := by
      cases r with
      | nil => exact h
      | cons q r => exact wrap32_in _
    rw [inv, fwd, wrap32_redo (inv r x).2 s.tell hx, ih]
theorem fwd_in : ∀ (st : List Step) (x : Int), (-2147483648 ≤ x ∧ x ≤ 2147483647) → -2147483648 ≤ (fwd st x).2 ∧ (fwd st x).2 ≤ 2147483647
  | [], x, h => h
  | s :: r, x, h => by rw [fwd]; exact fwd_in r _ (wrap32_in _)
theorem inv_in : ∀ (st : List Step) (x : Int), (-2147483648 ≤ x ∧ x ≤ 2147483647) → -2147483648 ≤ (inv st x).2 ∧ (inv st x).2 ≤ 2147483647
  | [], x, h => h
  | s :: r, x, h => by rw [inv]; exact wrap32_in _
/-- A step in order: so many weights of 16 bits, numbers of 32 bits. -/
structure Okay (s : Step) : Prop where
  w : In16 s.W
  n : s.W.length ≤ 64
  l : s.S.length = if s.W.length = 0 then 1 else s.W.length
  s : ∀ x ∈ s.S, -2147483648 ≤ x ∧ x ≤ 2147483647
theorem i16_in (x : Int) : -32768 ≤ IntKind.i16.wrap x ∧ IntKind.i16.wrap x ≤ 32767 := by
  have e : IntKind.i16.wrap x = if 32768 ≤ x % 65536 then x % 65536 - 65536 else x % 65536 := by
    simp [IntKind.wrap, IntKind.bits, IntKind.signed]
  rw [e]
  split <;> omega
theorem wsee_in {ws : List Int} (h : In16 ws) (f : Nat → Int) (l : Int) : ∀ k, In16 (wsee ws f l k)
  | 0 => h
  | k + 1 => fun x hx => by
    rw [wsee] at hx
    rcases List.mem_or_eq_of_mem_set hx with hx | rfl
    · exact wsee_in h f l k x hx
    · exact i16_in _
theorem Okay.see {s : Step} (h : Okay s) (x l : Int) (hx : -2147483648 ≤ x ∧ x ≤ 2147483647) : Okay (s.see x l) := by
  have hl : (s.see x l).W.length = s.W.length := wsee_length _ _ _ _
  refine ⟨wsee_in h.w _ _ _, by rw [hl]; exact h.n, ?_, ?_⟩
  · rw [hl]
    have := h.l
    show (x :: s.S.dropLast).length = _
    rw [List.length_cons, List.length_dropLast, this]
    split <;> omega
  · intro y hy
    rcases List.mem_cons.1 hy with rfl | hy
    · exact hx
    · exact h.s y (List.dropLast_subset _ hy)
theorem Okay.seen {s : Step} (h : Okay s) (i : Nat) : -2147483648 ≤ s.seen i ∧ s.seen i ≤ 2147483647 := by
  unfold Step.seen
  rw [List.getD_eq_getElem?_getD]
  rcases Nat.lt_or_ge i s.S.length with hk | hk
  · rw [List.getElem?_eq_getElem hk]
    exact h.s _ (List.getElem_mem hk)
  · rw [List.getElem?_eq_none hk]
    exact ⟨by decide, by decide⟩
theorem Okay.tell {s : Step} (h : Okay s) : -2147483648 ≤ s.tell ∧ s.tell ≤ 2147483647 := by
  unfold Step.tell
  split
  · have := h.seen 0
    omega
  · have := fsum_in h.w s.seen s.W.length
    have hn := h.n
    omega
def Okays (st : List Step) : Prop := ∀ s ∈ st, Okay s
theorem fwd_okay : ∀ {st : List Step} (h : Okays st) (x : Int), (-2147483648 ≤ x ∧ x ≤ 2147483647) → Okays (fwd st x).1
  | [], h, x, _ => h
  | s :: r, h, x, hx => by
    rw [fwd]
    intro y hy
    rcases List.mem_cons.1 hy with rfl | hy
    · exact (h s (List.mem_cons_self ..)).see _ _ hx
    · exact fwd_okay (fun q hq => h q (List.mem_cons_of_mem _ hq)) _ (wrap32_in _) y hy
theorem inv_okay : ∀ {st : List Step} (h : Okays st) (x : Int), (-2147483648 ≤ x ∧ x ≤ 2147483647) → Okays (inv st x).1
  | [], h, x, _ => h
  | s :: r, h, x, hx => by
    rw [inv]
    intro y hy
    rcases List.mem_cons.1 hy with rfl | hy
    · exact (h s (List.mem_cons_self ..)).see _ _ (wrap32_in _)
    · exact inv_okay (fun q hq => h q (List.mem_cons_of_mem _ hq)) _ hx y hy
/-- A ring as what was seen. -/
theorem ring_see (n a : Nat) (saw S : List Int) (x : Int) (hn : 0 < n) (ha : a < n) (hl : saw.length = n) (hs : S.length = n) (h : ∀ i, i < n → saw.getD ((a + i) % n) 0 = S.getD i 0) :
    ∀ i, i < n → (saw.set ((a + n - 1) % n) x).getD (((a + n - 1) % n + i) % n) 0 = (x :: S.dropLast).getD i 0 := by
  intro i hi
  have hq : (a + n - 1) % n < n := Nat.mod_lt _ hn
  cases i with
  | zero =>
    rw [Nat.add_zero, Nat.mod_eq_of_lt hq, List.getD_eq_getElem?_getD, List.getElem?_set_self (by omega)]
    rfl
  | succ i =>
    have e1 : ((a + n - 1) % n + (i + 1)) % n = (a + i) % n := by
      rw [Nat.mod_add_mod, show a + n - 1 + (i + 1) = (a + i) + n by omega, Nat.add_mod_right]
    have e2 : (a + n - 1) % n ≠ (a + i) % n := by
      rcases Nat.lt_or_ge (a + i) n with h1 | h1
      · rw [Nat.mod_eq_of_lt h1]
        rcases Nat.eq_zero_or_pos a with rfl | h2
        · rw [Nat.zero_add, Nat.mod_eq_of_lt (by omega)]; omega
        · rw [show a + n - 1 = (a - 1) + n by omega, Nat.add_mod_right, Nat.mod_eq_of_lt (by omega)]; omega
      · rw [Nat.mod_eq_sub_mod h1, Nat.mod_eq_of_lt (show a + i - n < n by omega), show a + n - 1 = (a - 1) + n by omega, Nat.add_mod_right, Nat.mod_eq_of_lt (by omega)]
        omega
    rw [e1, List.getD_eq_getElem?_getD, List.getElem?_set_ne e2, ← List.getD_eq_getElem?_getD, h i (by omega), List.getD_cons_succ]
    rw [List.getD_eq_getElem?_getD, List.getD_eq_getElem?_getD, List.getElem?_dropLast, if_pos (by omega)]
end Go.Proofs.Yteljaikpechbmaa.Hand
