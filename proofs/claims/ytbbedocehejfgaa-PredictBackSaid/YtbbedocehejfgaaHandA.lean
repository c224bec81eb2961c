/- Contracts of layer 9, proved by hand: predictors are closures over their coefficients and their shift. -/
import Derived.Test.YtbbedocehejfgaaProg
import Derived.WalkKit
import Derived.KernelRfl
import Derived.Below
import Derived.BigRegion
import Derived.Deep.LoopGhost
import Derived.Deep.Draws
import Derived.Deep.QuietTactic
import Derived.BigQuiet
import Derived.Deep.RegionLaw
import Derived.Lib.SliceRun
import Derived.Test.YtbbedocehejfgaaWWords
import Derived.Test.YtbbedocehejfgaaWMore
import Derived.Test.YtbbedocehejfgaaWLast
namespace Go.Proofs.Ytbbedocehejfgaa.Hand
open Go.RowKit Go.Proofs.YtbbedocehejfgaaW.PrintWords Go.Proofs.YtbbedocehejfgaaW.PrintLast Go.Proofs.YtbbedocehejfgaaW.PrintMore
set_option linter.unusedVariables false
set_option linter.unusedSimpArgs false

/-- The sum of the first i terms of what a predictor foretells. -/
def foreSum (coefs l : List Int) : Nat → Int
  | 0 => 0
  | i + 1 => wrap64 (foreSum coefs l i + wrap64 (rd coefs (i : Nat) * rd l ((l.length - 1 - i : Nat) : Int)))
/-- What a predictor foretells behind l. -/
def foretell (coefs : List Int) (shift : Int) (l : List Int) : Int := shr .i64 (foreSum coefs l coefs.length) shift

/-- A predictor: a closure over two variables. -/
def Clo (w : World) (v : Value) (coefs : List Int) (shift : Int) : Prop :=
  ∃ ga gs A c, v = .func (.func 47) #[] #[.pointer (some ⟨ga, 0, none⟩), .pointer (some ⟨gs, 0, none⟩)] ∧
    w.cell? ⟨ga, 0, none⟩ = some (.slice A coefs.length c) ∧ w.cell? ⟨gs, 0, none⟩ = some (.int .i64 shift) ∧ ReadsInt w .i64 A coefs.length coefs ∧ coefs.length ≤ c
theorem Clo.below {w w' : World} {v : Value} {coefs : List Int} {shift : Int} (h : Clo w v coefs shift) (hb : Below w.heap.size w w') : Clo w' v coefs shift := by
  obtain ⟨ga, gs, A, c, h1, h2, h3, h4, h5⟩ := h
  exact ⟨ga, gs, A, c, h1, pw_cell_below hb h2, pw_cell_below hb h3, h4.below hb, h5⟩

set_option maxHeartbeats 1000000 in
set_option maxRecDepth 100000 in
theorem of1_any (coefs l : List Int) (shift : Int) (ga gs : Nat) (A A2 : Option Addr) (c c2 : Nat) (w : World)
    (h1 : w.cell? ⟨ga, 0, none⟩ = some (.slice A coefs.length c)) (h2 : w.cell? ⟨gs, 0, none⟩ = some (.int .i64 shift)) (hc : ReadsInt w .i64 A coefs.length coefs)
    (hl : ReadsInt w .i64 A2 l.length l) (hn : coefs.length ≤ l.length) (hs : 0 ≤ shift) (hs2 : shift ≤ 31) :
    Calls Try.prog 47 #[.slice A2 l.length c2, .pointer (some ⟨ga, 0, none⟩), .pointer (some ⟨gs, 0, none⟩)] w fun e w' => e = .returned (.int .i64 (foretell coefs shift l)) ∧ w = w' := by
  have HC := Aside0.mk hc
  have HL := Aside0.mk hl
  have hmax := hl.2.1
  clear hc hl
  go_enter Try.func47, Try.ntmps47
  go_wp2
  go_loop [5, 10] (fun s i => ∃ k : Nat, k ≤ coefs.length ∧ i = .int .i64 k ∧ s = .int .i64 (foreSum coefs l k)) (fun _ i => coefs.length - (intOf i).toNat)
  case atStart => exact ⟨0, Nat.zero_le _, rfl, rfl⟩
  case round =>
    obtain ⟨k, hk, rfl, rfl⟩ := hrel
    by_cases hlt : k < coefs.length
    · have i1 : (k : Int) < (coefs.length : Int) := by omega
      obtain ⟨ad, rfl, hx⟩ := HC.out.at_ (k : Int) (by omega) i1
      obtain ⟨m, hm⟩ : ∃ m, l.length = k + 1 + m := ⟨l.length - 1 - k, by omega⟩
      have i3 : (m : Int) < (l.length : Int) := by omega
      obtain ⟨ad2, rfl, hx2⟩ := HL.out.at_ (m : Int) (by omega) i3
      rw [Int.toNat_natCast] at hx hx2
      have e1 : (l.length : Int) - 1 - (k : Int) = (m : Int) := by omega
      have HS : Aside0 (foreSum coefs l (k + 1) = wrap64 (foreSum coefs l k + wrap64 (rd coefs (k : Nat) * rd l (m : Int)))) := ⟨by
        simp only [foreSum]
        rw [show l.length - 1 - k = m by omega]⟩
      generalize rd coefs (k : Int) = x1 at hx HS
      generalize rd l (m : Int) = x2 at hx2 HS
      have HM := Aside0.mk hm
      clear hm
      go_wp2
      go_round
      case rel => exact ⟨k + 1, by omega, by go_num, by rw [HS.out]⟩
      case measure => simp [intOf]; omega
    · obtain rfl : k = coefs.length := by omega
      go_wp2
      go_ret
      exact ⟨by unfold foretell shr; rw [Nat.min_eq_left (by simp [IntKind.bits]; omega)]; rfl, rfl⟩

/-- What is left over of the numbers from i on, before j. -/
def leftTo (coefs : List Int) (shift : Int) (l : List Int) (i d : Nat) : List Int :=
  (List.range' i d).map fun j => wrap64 (rd l (j : Nat) - foretell coefs shift (l.take j))
theorem leftTo_snoc (coefs : List Int) (shift : Int) (l : List Int) (i d : Nat) : leftTo coefs shift l i (d + 1) = leftTo coefs shift l i d ++ [wrap64 (rd l ((i + d : Nat) : Int) - foretell coefs shift (l.take (i + d)))] := by
  simp [leftTo, List.range'_concat]
theorem leftTo_length (coefs : List Int) (shift : Int) (l : List Int) (i d : Nat) : (leftTo coefs shift l i d).length = d := by simp [leftTo]
theorem info3 : (Try.prog.info? 3).map (fun i => (i.zero, i.size, i.bytes)) = some (some (.int .i64 0), 1, 8) := by kernel_rfl
section
variable {ops : Array Oper} {o : Oper} {a : Act} {Q : Exit → Act → World → Prop} {Kc : Act → World → Prop} {rest : List Oper}
theorem app_step {w0 W : World} (s x : Operand) (y : Int) {v : Value} {xs : List Int} (hw : Region.wanted o (yielded ops a.tmps) = true)
    (ho : o.op = .call { callee := .builtin .append, args := #[s, x], argTypes := #[22, 22] }) (hs : a.eval s = v) (hx : a.eval x = .slice (some ⟨W.heap.size, 0, none⟩) 1 1)
    (HO : Kd.R (Kd.int .i64) 3 W w0.heap.size (fun _ => True) v xs) (HB : Below w0.heap.size w0 W) (hl : xs.length < 17592186044416)
    (h : ∀ v1 w1, Aside0 (Kd.R (Kd.int .i64) 3 w1 w0.heap.size (fun _ => True) v1 (xs ++ [y])) → Aside0 (Below w0.heap.size w0 w1) → Kc (a.put o.dst v1) w1) :
    if Region.wanted o (yielded ops a.tmps) = true then Oper.wp Try.prog o a (W.alloc (.cells #[.int .i64 y] 3)) Kc Q else Kc (a.put o.dst undef) (W.alloc (.cells #[.int .i64 y] 3)) :=
  Kd.R_append_step (Kd.int .i64) (w0 := w0) w0.heap.size hw s x 22 3 (.int .i64 0) 8 ho Try.underlying22 info3 rfl (by decide) (by omega) v xs y [.int .i64 y] (fun _ => True) (fun _ => False) hs hx rfl (fun _ hk => hk.elim)
    (fun _ _ => trivial) HO HB HB.size (by omega) (fun v1 w1 h1 h2 _ _ => h v1 w1 ⟨h1⟩ ⟨h2⟩)
theorem app_step_drew {w0 W : World} (s x : Operand) (y : Int) {v : Value} {xs : List Int} (hw : Region.wanted o (yielded ops a.tmps) = true)
    (ho : o.op = .call { callee := .builtin .append, args := #[s, x], argTypes := #[22, 22] }) (hs : a.eval s = v) (hx : a.eval x = .slice (some ⟨W.heap.size, 0, none⟩) 1 1)
    (HO : Kd.R (Kd.int .i64) 3 W w0.heap.size (fun _ => True) v xs) (HB : Below w0.heap.size w0 W) (hl : xs.length < 17592186044416)
    (h : ∀ v1 w1, Aside0 (Kd.R (Kd.int .i64) 3 w1 w0.heap.size (fun _ => True) v1 (xs ++ [y])) → Aside0 (Below w0.heap.size w0 w1) → Kc (a.put o.dst v1) w1) :
    if Region.wanted o (yielded ops a.tmps) = true then Oper.wp Try.prog o a (W.alloc (.cells #[.int .i64 y] 3)).drew Kc Q else Kc (a.put o.dst undef) (W.alloc (.cells #[.int .i64 y] 3)).drew :=
  app_step (W := W.drew) s x y hw ho hs hx (Kd.R_drew HO) (below_drew HB) hl h
theorem app_list {w0 W : World} (s x : Operand) (y : Int) {v : Value} {xs : List Int} (hgd : o.guard = none)
    (ho : o.op = .call { callee := .builtin .append, args := #[s, x], argTypes := #[22, 22] }) (hs : a.eval s = v) (hx : a.eval x = .slice (some ⟨W.heap.size, 0, none⟩) 1 1)
    (HO : Kd.R (Kd.int .i64) 3 W w0.heap.size (fun _ => True) v xs) (HB : Below w0.heap.size w0 W) (hl : xs.length < 17592186044416)
    (h : ∀ v1 w1, Aside0 (Kd.R (Kd.int .i64) 3 w1 w0.heap.size (fun _ => True) v1 (xs ++ [y])) → Aside0 (Below w0.heap.size w0 w1) → wpList Try.prog ops Q rest (a.put o.dst v1) w1) :
    wpList Try.prog ops Q (o :: rest) a (W.alloc (.cells #[.int .i64 y] 3)) :=
  Kd.R_append (Kd.int .i64) (w0 := w0) w0.heap.size hgd s x 22 3 (.int .i64 0) 8 ho Try.underlying22 info3 rfl (by decide) (by omega) v xs y [.int .i64 y] (fun _ => True) (fun _ => False) hs hx rfl (fun _ hk => hk.elim)
    (fun _ _ => trivial) HO HB HB.size (by omega) (fun v1 w1 h1 h2 _ _ => h v1 w1 ⟨h1⟩ ⟨h2⟩)
end
set_option maxHeartbeats 2000000 in
set_option maxRecDepth 100000 in
theorem left_any (coefs l : List Int) (shift : Int) (v : Value) (A : Option Addr) (c : Nat) (w : World) (hv : Clo w v coefs shift)
    (hl : ReadsInt w .i64 A l.length l) (hc : l.length ≤ c) (hn : coefs.length ≤ l.length) (hs : 0 ≤ shift) (hs2 : shift ≤ 31) (hb : l.length * 8 ≤ 140737488355328) :
    Calls Try.prog 30 #[v, .int .i64 coefs.length, .slice A l.length c] w fun e w' => ∃ v0, e = .returned v0 ∧
      Kd.R (Kd.int .i64) 3 w' w.heap.size (fun _ => True) v0 (leftTo coefs shift l coefs.length (l.length - coefs.length)) ∧ Below w.heap.size w w' := by
  have HV := Aside0.mk hv
  have HL := Aside0.mk hl
  have hmax := hl.2.1
  clear hl
  obtain ⟨ga, gs, A1, c1, rfl, hv2⟩ := hv
  clear hv2
  go_enter Try.func30, Try.ntmps30
  go_wp2
  go_loopw [7, 8] (fun o i wr => ∃ d : Nat, coefs.length + d ≤ l.length ∧ i = .int .i64 ((coefs.length + d : Nat) : Int) ∧ Aside0 (Kd.R (Kd.int .i64) 3 wr w.heap.size (fun _ => True) o (leftTo coefs shift l coefs.length d)) ∧ Aside0 (Below w.heap.size w wr)) (fun _ i _ => l.length - (intOf i).toNat)
  case atStart => exact ⟨0, by omega, rfl, ⟨Kd.R_nil _ _ _ _ _⟩, ⟨Below.refl _ _⟩⟩
  case round =>
    obtain ⟨d, hd, rfl, HO, HB⟩ := hrel
    obtain ⟨i, hi⟩ : ∃ i, coefs.length + d = i := ⟨_, rfl⟩
    have HI := Aside0.mk hi
    rw [hi]
    by_cases hlt : i < l.length
    · have i1 : (i : Int) < (l.length : Int) := by omega
      have i0 : (0 : Int) ≤ (i : Int) := by omega
      clear hi
      obtain ⟨ad, rfl, hx⟩ := HL.out.at_ (i : Int) (by omega) i1
      rw [Int.toNat_natCast] at hx
      replace hx := (HB.out.cell (World.block_lt_of_cell? w _ hx)).trans hx
      generalize hx1 : rd l (i : Int) = x1 at hx
      have HX := Aside0.mk hx1
      clear hx1
      have hsl := cut_to (P := Try.prog) 22 3 .i64 Try.underlying22 (i := _) (by exact (Option.map_eq_some_iff.1 info3).choose_spec.1) (some ad) l.length c (i : Int) i0 (by omega) hc
      rw [Int.toNat_natCast] at hsl
      go_wp2
      have hf := HV.out.below HB.out
      obtain ⟨ga', gs', A1', c1', e1, f1, f2, f3, f4⟩ := hf
      injection e1 with _ _ e1
      simp only [Array.mk.injEq, List.cons.injEq, Value.pointer.injEq, Option.some.injEq, Addr.mk.injEq, and_true, true_and] at e1
      obtain ⟨rfl, rfl⟩ := e1
      have F3 := Aside0.mk f3
      clear f3
      have hlt' : (l.take i).length = i := by rw [List.length_take]; omega
      have hci : coefs.length ≤ i := by have := HI.out; omega
      have hcall : ∀ W : World, Below wr.heap.size wr W → Calls Try.prog 47 #[.slice (some ad) i c, .pointer (some ⟨ga, 0, none⟩), .pointer (some ⟨gs, 0, none⟩)] W fun e w' => e = .returned (.int .i64 (foretell coefs shift (l.take i))) ∧ W = w' := by
        intro W hW
        have hr : ReadsInt W .i64 (some ad) i (l.take i) := ((HL.out.below HB.out).below hW).take_ i (by omega)
        have := of1_any coefs (l.take i) shift ga gs A1' (some ad) c1' c W (pw_cell_below hW f1) (pw_cell_below hW f2) (F3.out.below hW) (by rw [hlt']; exact hr) (by rw [hlt']; exact hci) hs hs2
        rw [hlt'] at this
        exact this
      have HC := Aside0.mk hcall
      clear hcall hlt'
      have hlen : (leftTo coefs shift l coefs.length d).length < 17592186044416 := by rw [leftTo_length]; have := HI.out; omega
      go_region_law (first | ((with_reducible refine app_step_drew (w0 := w) (v := u7) (xs := leftTo coefs shift l coefs.length d) (.tmp 16) (.tmp 27) _ ?_ ?_ ?_ ?_ ?_ ?_ ?_ ?_); rfl; rfl; rfl; rfl; exact HO.out; exact HB.out; exact hlen; intro v1 w1 HO1 HB1) | (go_simp; go_at_call 47; refine (HC.out _ (by first | exact below_drew (Below.refl _ _) | exact Below.refl _ _)).mono ?_; rintro e w' ⟨rfl, rfl⟩))
      all_goals
        go_wp2
        go_roundw
        case rel =>
          refine ⟨d + 1, by have := HI.out; omega, by rw [show ((coefs.length + (d + 1) : Nat) : Int) = (i : Int) + 1 by have := HI.out; omega], ⟨?_⟩, HB1⟩
          rw [leftTo_snoc, HI.out, HX.out, ← i64_w]
          exact HO1.out
        case measure => have := HI.out; simp [intOf]; omega
    · have i1 : ¬ (i : Int) < (l.length : Int) := by omega
      have hi2 : d = l.length - coefs.length := by omega
      clear hi
      go_wp2
      go_ret
      refine ⟨_, rfl, ?_, HB.out⟩
      rw [← hi2]
      exact HO.out

end Go.Proofs.Ytbbedocehejfgaa.Hand
