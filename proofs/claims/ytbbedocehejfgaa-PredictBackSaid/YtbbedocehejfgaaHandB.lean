/- Contracts of layer 9, proved by hand, the second part. -/
import Derived.Test.YtbbedocehejfgaaHandA
namespace Go.Proofs.Ytbbedocehejfgaa.Hand
open Go.RowKit Go.Proofs.YtbbedocehejfgaaW.PrintWords Go.Proofs.YtbbedocehejfgaaW.PrintLast Go.Proofs.YtbbedocehejfgaaW.PrintMore
set_option linter.unusedVariables false
set_option linter.unusedSimpArgs false

/-- What was: the warm numbers, and behind them so many that came back. -/
def wholeTo (coefs : List Int) (shift : Int) (warm l : List Int) : Nat → List Int
  | 0 => warm
  | d + 1 => wholeTo coefs shift warm l d ++ [wrap64 (rd l (d : Nat) + foretell coefs shift (wholeTo coefs shift warm l d))]
theorem wholeTo_length (coefs : List Int) (shift : Int) (warm l : List Int) : ∀ d, (wholeTo coefs shift warm l d).length = warm.length + d
  | 0 => rfl
  | d + 1 => by simp [wholeTo, wholeTo_length coefs shift warm l d]; omega

section
variable {ops : Array Oper} {o : Oper} {a : Act} {Q : Exit → Act → World → Prop} {rest : List Oper}
theorem app_row {w0 W : World} {v : Value} {xs ys : List Int} {A : Option Addr} {m c : Nat} (s x : Operand) (hgd : o.guard = none)
    (ho : o.op = .call { callee := .builtin .append, args := #[s, x], argTypes := #[22, 22] }) (hs : a.eval s = v) (hx : a.eval x = .slice A m c)
    (HO : Kd.R (Kd.int .i64) 3 W w0.heap.size (fun _ => True) v xs) (HC : (Kd.int .i64).C W A m ys) (HB : Below w0.heap.size w0 W) (hl : (xs.length + m) * 8 ≤ 140737488355328)
    (h : ∀ v1 w1, Aside0 (Kd.R (Kd.int .i64) 3 w1 w0.heap.size (fun _ => True) v1 (xs ++ ys)) → Aside0 (Below w0.heap.size w0 w1) → wpList Try.prog ops Q rest (a.put o.dst v1) w1) :
    wpList Try.prog ops Q (o :: rest) a W :=
  Kd.R_append_row (Value.int .i64) (0 : Int) (w0 := w0) w0.heap.size hgd s x 22 3 (.int .i64 0) 8 ho Try.underlying22 info3 rfl (by decide) v xs ys A m c (fun _ => True) hs hx (fun _ _ => trivial) HO HC HB HB.size hl
    (fun v1 w1 h1 h2 _ _ => h v1 w1 ⟨h1⟩ ⟨h2⟩)
end
set_option maxHeartbeats 2000000 in
set_option maxRecDepth 100000 in
theorem clone_any (l : List Int) (A : Option Addr) (c : Nat) (w : World) (hl : ReadsInt w .i64 A l.length l) (hb : l.length * 8 ≤ 140737488355328) :
    Calls Try.prog 46 #[.slice A l.length c] w fun e w' => ∃ v0, e = .returned v0 ∧ Kd.R (Kd.int .i64) 3 w' w.heap.size (fun _ => True) v0 l ∧ Below w.heap.size w w' := by
  have qT : ∀ (w : World) (a : Option Addr) (n c n' c' : Nat), (binOp .eql 22 (.slice a n c) (.slice none n' c')).run Try.prog w = .ok (.bool a.isNone) w := fun w a n c n' c' => Lib.run_eql_slice_nil w _ _ a n c n' c' Try.underlying22
  have HL := Aside0.mk hl
  clear hl
  rcases A with _ | ad
  · have h0 : l = [] := by
      rcases Nat.eq_zero_or_pos l.length with h | h
      · exact List.eq_nil_of_length_eq_zero h
      · obtain ⟨ad, e, _⟩ := HL.out.2.2 h
        cases e
    subst h0
    go_enter Try.func46, Try.ntmps46
    go_wp2
    go_ret
    exact ⟨_, rfl, Kd.R_nil _ _ _ _ _, Below.refl _ _⟩
  · have hr : Kd.R (Kd.int .i64) 3 (w.alloc (.cells #[] 3)) w.heap.size (fun _ => True) (.slice (some ⟨w.heap.size, 0, none⟩) 0 0) ([] : List Int) :=
      Kd.R_of_own (by
        have := World.ownsRow_lit (base := w.heap.size) (e := 3) (size := 1) w #[] 0 (Nat.le_refl _) (by unfold maxLen; omega) (by simp)
        simpa [encs] using this) (fun _ _ => trivial)
    have hc : (Kd.int .i64).C (w.alloc (.cells #[] 3)) (some ad) l.length l := Kd.C_of_reads (HL.out.below (below_alloc (Below.refl _ _) _))
    have HR := Aside0.mk hr
    have HC := Aside0.mk hc
    clear hr hc
    go_enter Try.func46, Try.ntmps46
    go_wp2_with (at_builtin; (with_reducible refine app_row (w0 := w) (v := .slice (some ⟨w.heap.size, 0, none⟩) 0 0) (xs := []) (ys := l) (A := some ad) (m := l.length) (c := c) (.tmp 5) (.tmp 6) ?_ ?_ ?_ ?_ ?_ ?_ ?_ ?_ ?_); rfl; rfl; rfl; rfl; exact HR.out; exact HC.out; exact below_alloc (Below.refl _ _) _; (simpa using hb); intro v1 w1 HR1 HB1)
    go_ret
    exact ⟨_, rfl, HR1.out, HB1.out⟩

theorem cell_new (W : World) (cs : Array Value) (t : TypeId) (i : Nat) : (W.alloc (.cells cs t)).cell? ⟨W.heap.size, i, none⟩ = cs[i]? := (blk_cell (blk_new W (.cells cs t)) i).trans rfl
theorem heap_at_new {W : World} {o : Obj} {j : Nat} (h : j = W.heap.size) : (W.alloc o).heap[j]? = some o := by subst h; exact heap_alloc_new W o
theorem heap_at_old {W : World} {o : Obj} {j : Nat} {v : Option Obj} (h : j < W.heap.size) (h2 : W.heap[j]? = v) : (W.alloc o).heap[j]? = v := (Below.heap_alloc W o j h).trans h2
theorem lit_reads {W : World} {g n : Nat} {cs : Array Value} {t : TypeId} (l : List Int) (h : W.heap[g]? = some (.cells cs t (0, 0))) (hl : cs.toList = l.map (Value.int .i64)) (hn : n = l.length) (hm : l.length ≤ 100) : ReadsInt W .i64 (some ⟨g, 0, none⟩) n l := by
  subst hn
  refine ⟨rfl, by omega, fun _ => ⟨_, rfl, fun j hj => ?_⟩⟩
  rw [add_plain, blk_cell h]
  have : cs[j]? = cs.toList[j]? := by simp
  rw [this, hl]
  simp [List.getD_eq_getElem?_getD, hj]
theorem readsOf_R {w : World} {base : Nat} {ok : Nat → Prop} {A : Option Addr} {n c : Nat} {xs : List Int} (h : Kd.R (Kd.int .i64) 3 w base ok (.slice A n c) xs) : n = xs.length ∧ n ≤ c ∧ ReadsInt w .i64 A xs.length xs := by
  obtain ⟨h1, h2, h3⟩ := Kd.R_reads' h
  exact ⟨h1, h2, Kd.reads_of_C (d := (0 : Int)) (enc := Value.int .i64) h3⟩
set_option maxHeartbeats 2000000 in
set_option maxRecDepth 100000 in
theorem of_any (coefs : List Int) (shift : Int) (A : Option Addr) (c : Nat) (w : World) (hc : ReadsInt w .i64 A coefs.length coefs) (hb : coefs.length * 8 ≤ 140737488355328) :
    Calls Try.prog 38 #[.slice A coefs.length c, .int .i64 shift] w fun e w' => ∃ v, e = .returned v ∧ Clo w' v coefs shift ∧ Below w.heap.size w w' := by
  have hmf : ∀ (fn : Fn) (first cap : Array Value) (w : World), (Instr.makeFunc fn first cap).run Try.prog w = .ok (.func fn first cap) w := fun _ _ _ _ => rfl
  have HC := Aside0.mk hc
  clear hc
  go_enter Try.func38, Try.ntmps38
  go_wp2_with fail
  refine (clone_any coefs A c _ (HC.out.below (below_alloc (Below.refl _ _) _)) hb).mono ?_
  rintro e w1 ⟨v0, rfl, hR, hB⟩
  obtain ⟨A1, c1, rfl, hl1, hC1⟩ := Kd.R_reads hR
  have HR := Aside0.mk hC1
  have HB := Aside0.mk hB
  have HL := Aside0.mk hl1
  clear hR hB hC1 hl1
  go_wp2
  go_ret
  refine ⟨_, rfl, ⟨w1.heap.size, w.heap.size, A1, c1, rfl, ?_, ?_, ?_, HL.out⟩, ?_⟩
  · exact cell_new w1 _ _ 0
  · have h1 : w1.cell? ⟨w.heap.size, 0, none⟩ = some (.int .i64 shift) := by
      rw [HB.out.cell (p := ⟨w.heap.size, 0, none⟩) (by simp)]
      exact cell_new w _ _ 0
    rw [World.cell?_alloc_lt _ _ _ (by have := HB.out.size; simp at this; show w.heap.size < w1.heap.size; omega)]
    exact h1
  · exact (Kd.reads_of_C (d := (0 : Int)) (enc := Value.int .i64) HR.out).below (below_alloc (Below.refl _ _) _)
  · exact (((Below.refl _ _).alloc (Nat.le_refl _) _).trans (HB.out.mono (by simp))).alloc (by have := HB.out.size; simp at this; omega) _
/-- The coefficients of a fixed predictor. -/
def fixedC (order : Int) : List Int := if order = 0 then [] else if order = 1 then [1] else if order = 2 then [2, -1] else if order = 3 then [3, -3, 1] else [4, -6, 4, -1]
set_option maxHeartbeats 2000000 in
set_option maxRecDepth 100000 in
theorem fixed_any (order : Int) (w : World) (h0 : 0 ≤ order) (h4 : order ≤ 4) :
    Calls Try.prog 31 #[.int .i64 order] w fun e w' => ∃ v, e = .returned v ∧ Clo w' v (fixedC order) 0 ∧ Below w.heap.size w w' := by
  have ho : order = 0 ∨ order = 1 ∨ order = 2 ∨ order = 3 ∨ order = 4 := by omega
  clear h0 h4
  rcases ho with rfl | rfl | rfl | rfl | rfl
  · go_enter Try.func31, Try.ntmps31
    go_wp2_with fail
    refine (of_any [] 0 none 0 _ ⟨rfl, by decide, fun h => absurd h (by decide)⟩ (by decide)).mono ?_
    rintro e w1 ⟨v, rfl, hv, hB⟩
    have HV := Aside0.mk hv
    have HB := Aside0.mk hB
    clear hv hB
    go_wp2
    go_ret
    exact ⟨_, rfl, HV.out, (by repeat (first | exact Below.refl _ _ | refine Below.alloc ?_ (by first | omega | (simp; done) | (simp; omega)) _) : Below w.heap.size w _).trans (HB.out.mono (by first | (simp; done) | (simp; omega)))⟩
  · go_enter Try.func31, Try.ntmps31
    go_wp2_with fail
    refine (of_any [1] 0 _ _ _ (lit_reads [1] (by repeat (first | exact heap_at_new (by first | (simp; done) | (simp; omega)) | refine heap_at_old (by first | (simp; done) | (simp; omega)) ?_)) rfl rfl (by decide)) (by decide)).mono ?_
    rintro e w1 ⟨v, rfl, hv, hB⟩
    have HV := Aside0.mk hv
    have HB := Aside0.mk hB
    clear hv hB
    go_wp2
    go_ret
    exact ⟨_, rfl, HV.out, (by repeat (first | exact Below.refl _ _ | refine Below.alloc ?_ (by first | omega | (simp; done) | (simp; omega)) _) : Below w.heap.size w _).trans (HB.out.mono (by first | (simp; done) | (simp; omega)))⟩
  · go_enter Try.func31, Try.ntmps31
    go_wp2_with fail
    refine (of_any [2, -1] 0 _ _ _ (lit_reads [2, -1] (by repeat (first | exact heap_at_new (by first | (simp; done) | (simp; omega)) | refine heap_at_old (by first | (simp; done) | (simp; omega)) ?_)) rfl rfl (by decide)) (by decide)).mono ?_
    rintro e w1 ⟨v, rfl, hv, hB⟩
    have HV := Aside0.mk hv
    have HB := Aside0.mk hB
    clear hv hB
    go_wp2
    go_ret
    exact ⟨_, rfl, HV.out, (by repeat (first | exact Below.refl _ _ | refine Below.alloc ?_ (by first | omega | (simp; done) | (simp; omega)) _) : Below w.heap.size w _).trans (HB.out.mono (by first | (simp; done) | (simp; omega)))⟩
  · go_enter Try.func31, Try.ntmps31
    go_wp2_with fail
    refine (of_any [3, -3, 1] 0 _ _ _ (lit_reads [3, -3, 1] (by repeat (first | exact heap_at_new (by first | (simp; done) | (simp; omega)) | refine heap_at_old (by first | (simp; done) | (simp; omega)) ?_)) rfl rfl (by decide)) (by decide)).mono ?_
    rintro e w1 ⟨v, rfl, hv, hB⟩
    have HV := Aside0.mk hv
    have HB := Aside0.mk hB
    clear hv hB
    go_wp2
    go_ret
    exact ⟨_, rfl, HV.out, (by repeat (first | exact Below.refl _ _ | refine Below.alloc ?_ (by first | omega | (simp; done) | (simp; omega)) _) : Below w.heap.size w _).trans (HB.out.mono (by first | (simp; done) | (simp; omega)))⟩
  · go_enter Try.func31, Try.ntmps31
    go_wp2_with fail
    refine (of_any [4, -6, 4, -1] 0 _ _ _ (lit_reads [4, -6, 4, -1] (by repeat (first | exact heap_at_new (by first | (simp; done) | (simp; omega)) | refine heap_at_old (by first | (simp; done) | (simp; omega)) ?_)) rfl rfl (by decide)) (by decide)).mono ?_
    rintro e w1 ⟨v, rfl, hv, hB⟩
    have HV := Aside0.mk hv
    have HB := Aside0.mk hB
    clear hv hB
    go_wp2
    go_ret
    exact ⟨_, rfl, HV.out, (by repeat (first | exact Below.refl _ _ | refine Below.alloc ?_ (by first | omega | (simp; done) | (simp; omega)) _) : Below w.heap.size w _).trans (HB.out.mono (by first | (simp; done) | (simp; omega)))⟩
end Go.Proofs.Ytbbedocehejfgaa.Hand
