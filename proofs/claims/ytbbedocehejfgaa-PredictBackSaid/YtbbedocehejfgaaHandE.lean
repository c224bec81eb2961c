/- Contracts of layer 9, proved by hand, the fifth part: stereo. -/
import Derived.Test.YtbbedocehejfgaaHandD
namespace Go.Proofs.Ytbbedocehejfgaa.Hand
open Go.RowKit Go.Proofs.YtbbedocehejfgaaW.PrintWords Go.Proofs.YtbbedocehejfgaaW.PrintLast Go.Proofs.YtbbedocehejfgaaW.PrintMore
set_option linter.unusedVariables false
set_option linter.unusedSimpArgs false

/-- What a mode makes of two numbers. -/
def stereo2 (mode x y : Int) : Int × Int := if mode = 1 then (x, wrap64 (x - y)) else if mode = 2 then (wrap64 (x - y), y) else if mode = 3 then (wrap64 (x + y) / 2, wrap64 (x - y)) else (x, y)
/-- And back. -/
def unstereo2 (mode x y : Int) : Int × Int := if mode = 1 then (x, wrap64 (x - y)) else if mode = 2 then (wrap64 (x + y), y) else if mode = 3 then (wrap64 (wrap64 (x - y / 2) + y), wrap64 (x - y / 2)) else (x, y)
set_option maxHeartbeats 2000000 in
theorem stereo1_any (mode x y : Int) (g : Nat) (w : World) (hm : w.cell? ⟨g, 0, none⟩ = some (.int .i64 mode)) :
    Calls Try.prog 41 #[.int .i64 x, .int .i64 y, .pointer (some ⟨g, 0, none⟩)] w fun e w' => e = .returned (.tuple #[.int .i64 (stereo2 mode x y).1, .int .i64 (stereo2 mode x y).2]) ∧ w = w' := by
  by_cases h1 : mode = 1
  · have HF := Aside0.mk (show stereo2 mode x y = _ from if_pos h1)
    subst h1
    go_enter Try.func41, Try.ntmps41
    go_wp2
    go_ret2
    rw [HF.out]
    exact ⟨rfl, rfl⟩
  by_cases h2 : mode = 2
  · have HF := Aside0.mk (show stereo2 mode x y = _ from (if_neg h1).trans (if_pos h2))
    subst h2
    go_enter Try.func41, Try.ntmps41
    go_wp2
    go_ret2
    rw [HF.out]
    exact ⟨rfl, rfl⟩
  by_cases h3 : mode = 3
  · have HF := Aside0.mk (show stereo2 mode x y = _ from (if_neg h1).trans ((if_neg h2).trans (if_pos h3)))
    subst h3
    go_enter Try.func41, Try.ntmps41
    go_wp2
    go_ret2
    rw [HF.out]
    exact ⟨rfl, rfl⟩
  · have HF := Aside0.mk (show stereo2 mode x y = _ from (if_neg h1).trans ((if_neg h2).trans (if_neg h3)))
    have b1 : (mode == 1) = false := beq_eq_false_iff_ne.2 h1
    have b2 : (mode == 2) = false := beq_eq_false_iff_ne.2 h2
    have b3 : (mode == 3) = false := beq_eq_false_iff_ne.2 h3
    go_enter Try.func41, Try.ntmps41
    go_wp2
    go_ret2
    rw [HF.out]
    exact ⟨rfl, rfl⟩
set_option maxHeartbeats 2000000 in
theorem unstereo1_any (mode x y : Int) (g : Nat) (w : World) (hm : w.cell? ⟨g, 0, none⟩ = some (.int .i64 mode)) :
    Calls Try.prog 43 #[.int .i64 x, .int .i64 y, .pointer (some ⟨g, 0, none⟩)] w fun e w' => e = .returned (.tuple #[.int .i64 (unstereo2 mode x y).1, .int .i64 (unstereo2 mode x y).2]) ∧ w = w' := by
  by_cases h1 : mode = 1
  · have HF := Aside0.mk (show unstereo2 mode x y = _ from if_pos h1)
    subst h1
    go_enter Try.func43, Try.ntmps43
    go_wp2
    go_ret2
    rw [HF.out]
    exact ⟨rfl, rfl⟩
  by_cases h2 : mode = 2
  · have HF := Aside0.mk (show unstereo2 mode x y = _ from (if_neg h1).trans (if_pos h2))
    subst h2
    go_enter Try.func43, Try.ntmps43
    go_wp2
    go_ret2
    rw [HF.out]
    exact ⟨rfl, rfl⟩
  by_cases h3 : mode = 3
  · have HF := Aside0.mk (show unstereo2 mode x y = _ from (if_neg h1).trans ((if_neg h2).trans (if_pos h3)))
    subst h3
    go_enter Try.func43, Try.ntmps43
    go_wp2
    go_ret2
    rw [HF.out]
    exact ⟨rfl, rfl⟩
  · have HF := Aside0.mk (show unstereo2 mode x y = _ from (if_neg h1).trans ((if_neg h2).trans (if_neg h3)))
    have b1 : (mode == 1) = false := beq_eq_false_iff_ne.2 h1
    have b2 : (mode == 2) = false := beq_eq_false_iff_ne.2 h2
    have b3 : (mode == 3) = false := beq_eq_false_iff_ne.2 h3
    go_enter Try.func43, Try.ntmps43
    go_wp2
    go_ret2
    rw [HF.out]
    exact ⟨rfl, rfl⟩

/-- The first d pairs, the left ones; the right ones. -/
def twoL (df : Int → Int → Int × Int) (a b : List Int) (d : Nat) : List Int := (List.range d).map fun j => (df (rd a (j : Nat)) (rd b (j : Nat))).1
def twoR (df : Int → Int → Int × Int) (a b : List Int) (d : Nat) : List Int := (List.range d).map fun j => (df (rd a (j : Nat)) (rd b (j : Nat))).2
theorem twoL_snoc (df : Int → Int → Int × Int) (a b : List Int) (d : Nat) : twoL df a b (d + 1) = twoL df a b d ++ [(df (rd a (d : Nat)) (rd b (d : Nat))).1] := by simp [twoL, List.range_succ]
theorem twoR_snoc (df : Int → Int → Int × Int) (a b : List Int) (d : Nat) : twoR df a b (d + 1) = twoR df a b d ++ [(df (rd a (d : Nat)) (rd b (d : Nat))).2] := by simp [twoR, List.range_succ]
theorem twoL_length (df : Int → Int → Int × Int) (a b : List Int) (d : Nat) : (twoL df a b d).length = d := by simp [twoL]
theorem twoR_length (df : Int → Int → Int × Int) (a b : List Int) (d : Nat) : (twoR df a b d).length = d := by simp [twoR]
def inside (most x : Int) : Prop := -most ≤ x ∧ x ≤ most
/-- Do the first d pairs lie within? -/
def okTo (most : Int) (a b : List Int) (d : Nat) : Prop := ∀ j : Nat, j < d → inside most (rd a (j : Nat)) ∧ inside most (rd b (j : Nat))
instance (most : Int) (a b : List Int) (d : Nat) : Decidable (okTo most a b d) := by unfold okTo inside; infer_instance
/-- What two gives. -/
def twoF (most : Int) (df : Int → Int → Int × Int) (a b : List Int) : List Int × List Int × Int :=
  if a.length = b.length ∧ okTo most a b a.length then (twoL df a b a.length, twoR df a b a.length, 0) else ([], [], 1)
theorem twoF_no {most : Int} {df : Int → Int → Int × Int} {a b : List Int} (d : Nat) (hd : d < a.length) (h : ¬ (inside most (rd a (d : Nat)) ∧ inside most (rd b (d : Nat)))) : twoF most df a b = ([], [], 1) := by
  unfold twoF
  rw [if_neg (fun hh => h (hh.2 d hd))]
/-- Two rows of the call's own, apart. -/
def Pair (w0 wr : World) (p q : Value) (xs ys : List Int) : Prop :=
  wr.ownsRow w0.heap.size 3 1 p xs.length (nums .i64 xs) ∧ wr.ownsRow w0.heap.size 3 1 q ys.length (nums .i64 ys) ∧ (∀ k, p.ownBlock = some k → q.ownBlock ≠ some k) ∧ Below w0.heap.size w0 wr
theorem Pair.start (w0 : World) : Pair w0 w0 (.slice none 0 0) (.slice none 0 0) [] [] := ⟨own_nil _ _ _ _, own_nil _ _ _ _, fun k h => by simp [Value.ownBlock] at h, Below.refl _ _⟩
theorem Pair.drewN {w0 W : World} {p q : Value} {xs ys : List Int} (h : Pair w0 W p q xs ys) (n : Nat) : Pair w0 (W.drewN n) p q xs ys := ⟨h.1, h.2.1, h.2.2.1, pw_below_drewN h.2.2.2 n⟩
section
variable {ops : Array Oper} {o : Oper} {a : Act} {Q : Exit → Act → World → Prop} {rest : List Oper}
theorem pair_left {w0 W : World} {p q : Value} {xs ys : List Int} (s x : Operand) (y : Int) (hgd : o.guard = none)
    (ho : o.op = .call { callee := .builtin .append, args := #[s, x], argTypes := #[22, 22] }) (hs : a.eval s = p) (hx : a.eval x = .slice (some ⟨W.heap.size, 0, none⟩) 1 1)
    (HO : Pair w0 W p q xs ys) (hl : xs.length < 17592186044416)
    (h : ∀ v1 w1, Aside0 (Pair w0 w1 v1 q (xs ++ [y]) ys) → wpList Try.prog ops Q rest (a.put o.dst v1) w1) :
    wpList Try.prog ops Q (o :: rest) a (W.alloc (.cells #[.int .i64 y] 3)) := by
  obtain ⟨h1, h2, h3, h4⟩ := HO
  refine print_append (w0 := w0) w0.heap.size hgd s x 22 3 (.int .i64 0) 8 ho Try.underlying22 info3 rfl (by decide) p (nums .i64 xs) (.int .i64 y) hs hx rfl (by simpa [nums] using h1) h4 h4.size (by simp [nums]; omega) ?_
  intro v1 w1 g1 g2 g3 g4
  refine h v1 w1 ⟨⟨by simpa [nums] using g1, ?_, ?_, g2⟩⟩
  · refine own_other h2 g3 ?_
    rcases hq : q.ownBlock with _ | k
    · exact .inl rfl
    · right
      intro e
      exact h3 k e.symm hq
  · intro k hk
    rcases g4 with e | ⟨b, e, hb⟩
    · rw [e] at hk; exact h3 k hk
    · rw [e] at hk
      injection hk with hk
      subst hk
      intro e2
      have := own_lt h2 _ e2
      omega
theorem pair_right {w0 W : World} {p q : Value} {xs ys : List Int} (s x : Operand) (y : Int) (hgd : o.guard = none)
    (ho : o.op = .call { callee := .builtin .append, args := #[s, x], argTypes := #[22, 22] }) (hs : a.eval s = q) (hx : a.eval x = .slice (some ⟨W.heap.size, 0, none⟩) 1 1)
    (HO : Pair w0 W p q xs ys) (hl : ys.length < 17592186044416)
    (h : ∀ v1 w1, Aside0 (Pair w0 w1 p v1 xs (ys ++ [y])) → wpList Try.prog ops Q rest (a.put o.dst v1) w1) :
    wpList Try.prog ops Q (o :: rest) a (W.alloc (.cells #[.int .i64 y] 3)) := by
  obtain ⟨h1, h2, h3, h4⟩ := HO
  refine print_append (w0 := w0) w0.heap.size hgd s x 22 3 (.int .i64 0) 8 ho Try.underlying22 info3 rfl (by decide) q (nums .i64 ys) (.int .i64 y) hs hx rfl (by simpa [nums] using h2) h4 h4.size (by simp [nums]; omega) ?_
  intro v1 w1 g1 g2 g3 g4
  refine h v1 w1 ⟨⟨?_, by simpa [nums] using g1, ?_, g2⟩⟩
  · refine own_other h1 g3 ?_
    rcases hp : p.ownBlock with _ | k
    · exact .inl rfl
    · right
      intro e
      exact h3 k hp e.symm
  · intro k hk e2
    rcases g4 with e | ⟨b, e, hb⟩
    · rw [e] at e2; exact h3 k hk e2
    · rw [e] at e2
      injection e2 with e2
      subst e2
      have := own_lt h1 _ hk
      omega
end
theorem Pair.kd {w0 wr : World} {p q : Value} {xs ys : List Int} (h : Pair w0 wr p q xs ys) :
    Kd.R (Kd.int .i64) 3 wr w0.heap.size (fun k_ => some k_ ≠ (q : Value).ownBlock) p xs ∧ Kd.R (Kd.int .i64) 3 wr w0.heap.size (fun k_ => some k_ ≠ (p : Value).ownBlock) q ys ∧ Below w0.heap.size w0 wr :=
  ⟨Kd.R_of_own h.1 (fun k hk e => h.2.2.1 k hk e.symm), Kd.R_of_own h.2.1 (fun k hk e => h.2.2.1 k e.symm hk), h.2.2.2⟩
end Go.Proofs.Ytbbedocehejfgaa.Hand
