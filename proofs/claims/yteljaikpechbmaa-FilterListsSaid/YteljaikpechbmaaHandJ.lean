/- Contracts of layer 17, proved by hand: lists through a new chain. -/
import Derived.Test.YteljaikpechbmaaHandI
namespace Go.Proofs.Yteljaikpechbmaa.Hand
open Go.RowKit Go.Proofs.Yteljaikpechbmaa.Q Go.Proofs.YteljaikpechbmaaW.PrintWords Go.Proofs.YteljaikpechbmaaW.PrintLast Go.Proofs.YteljaikpechbmaaW.PrintMore
set_option linter.unusedVariables false
set_option linter.unusedSimpArgs false

def outs (op : List Step → Int → List Step × Int) : List Step → List Int → List Int
  | _, [] => []
  | st, x :: r => (op st x).2 :: outs op (op st x).1 r
def ends (op : List Step → Int → List Step × Int) : List Step → List Int → List Step
  | st, [] => st
  | st, x :: r => ends op (op st x).1 r
theorem outs_snoc (op : List Step → Int → List Step × Int) (x : Int) : ∀ (p : List Int) (st : List Step), outs op st (p ++ [x]) = outs op st p ++ [(op (ends op st p) x).2]
  | [], st => rfl
  | y :: p, st => by rw [List.cons_append, outs, outs_snoc op x p, outs, ends]; rfl
theorem ends_snoc (op : List Step → Int → List Step × Int) (x : Int) : ∀ (p : List Int) (st : List Step), ends op st (p ++ [x]) = (op (ends op st p) x).1
  | [], st => rfl
  | y :: p, st => by rw [List.cons_append, ends, ends_snoc op x p, ends]
theorem outs_length (op : List Step → Int → List Step × Int) : ∀ (p : List Int) (st : List Step), (outs op st p).length = p.length
  | [], st => rfl
  | y :: p, st => by rw [outs, List.length_cons, outs_length op p, List.length_cons]
def In32 (l : List Int) : Prop := ∀ x ∈ l, -2147483648 ≤ x ∧ x ≤ 2147483647
instance (l : List Int) : Decidable (In32 l) := by unfold In32; infer_instance
/-- What a list gives in a new chain of a level: the numbers, the error. -/
def allF (op : List Step → Int → List Step × Int) (k : Int) (l : List Int) : List Int × Int :=
  if 0 ≤ k ∧ k ≤ 2 then (if In32 l then (outs op (start k) l, 0) else ([], 1)) else ([], 1)
theorem R_chain {w w1 : World} {B g : Nat} {cv v : Value} {ls : List Lay} {st : List Step} {xs : List Int} (h : ChAt w B g cv ls st) (hr : Kd.R (Kd.int .i64) 3 w B (fun k => ¬ Chs g cv ls k) v xs) (hg : w.grownBy w1 v.ownBlock) : ChAt w1 B g cv ls st :=
  h.kept (S := fun k => v.ownBlock = some k) ⟨hg.size, fun i hi hn => hg.block i hi (fun he => hn he.symm)⟩ (fun b hb e => hr.1 b e hb)
theorem chs_lt {w : World} {B g : Nat} {cv : Value} {ls : List Lay} {st : List Step} (h : ChAt w B g cv ls st) {k : Nat} (hk : Chs g cv ls k) : k < w.heap.size := by
  rcases hk with rfl | hk | hk
  · exact blk_lt h.hd
  · rcases h.row with ⟨_, rfl⟩ | ⟨b, rfl, h2, _⟩
    · simp [Value.ownBlock] at hk
    · simp [Value.ownBlock] at hk
      subst hk
      exact blk_lt h2
  · obtain ⟨i, l, s, _, _, hs, hb⟩ := h.steps hk
    exact (hs.lt k hb).2
theorem info3 : (Try.prog.info? 3).map (fun i => (i.zero, i.size, i.bytes)) = some (some (.int .i64 0), 1, 8) := by kernel_rfl
section
variable {ops : Array Oper} {o : Oper} {a : Act} {Q : Exit → Act → World → Prop} {rest : List Oper}
theorem app_chain {w0 W : World} {B g : Nat} {cv : Value} {ls : List Lay} {st : List Step} (s x : Operand) (y : Int) {v : Value} {xs : List Int} (hgd : o.guard = none)
    (ho : o.op = .call { callee := .builtin .append, args := #[s, x], argTypes := #[22, 22] }) (hs : a.eval s = v) (hx : a.eval x = .slice (some ⟨W.heap.size, 0, none⟩) 1 1)
    (HO : Kd.R (Kd.int .i64) 3 W B (fun k => ¬ Chs g cv ls k) v xs) (HC : ChAt W B g cv ls st) (HB : Below B w0 W) (hl : xs.length < 17592186044415)
    (h : ∀ v1 w1, Aside0 (Kd.R (Kd.int .i64) 3 w1 B (fun k => ¬ Chs g cv ls k) v1 (xs ++ [y])) → Aside0 (ChAt w1 B g cv ls st) → Aside0 (Below B w0 w1) → wpList Try.prog ops Q rest (a.put o.dst v1) w1) :
    wpList Try.prog ops Q (o :: rest) a (W.alloc (.cells #[.int .i64 y] 3)) :=
  Kd.R_append (Kd.int .i64) (w0 := w0) B hgd s x 22 3 (.int .i64 0) 8 ho Try.underlying22 info3 rfl (by decide) (by omega) v xs y [.int .i64 y] (fun k => ¬ Chs g cv ls k) (fun _ => False) hs hx rfl (fun _ hk => hk.elim)
    (fun k hk hc => by have := chs_lt HC hc; omega) HO HB (Nat.le_trans HC.base (Nat.le_of_lt (blk_lt HC.hd))) (by omega) (fun v1 w1 h1 h2 h3 h4 => h v1 w1 ⟨h1⟩ ⟨R_chain HC HO h3⟩ ⟨h2⟩)
end
set_option maxHeartbeats 8000000 in
set_option maxRecDepth 100000 in
theorem all_fwd_none (k : Int) (h : k < 0 ∨ 2 < k) (A : Option Addr) (n c : Nat) (w : World) :
    Calls Try.prog 29 #[.int .i64 k, .slice A n c, .func (.func 10) #[] #[]] w fun e w' => e = .returned (.tuple #[.slice none 0 0, .int .i64 1]) ∧ Drawn0 w w' := by
  have hup := Try.underlying24
  have HN := Aside0.mk (New_none k h)
  clear h
  go_enter Try.func29, Try.ntmps29
  go_wp2_with fail
  refine (HN.out _).mono ?_
  rintro e w1 ⟨rfl, hd⟩
  have HD := Aside0.mk hd
  clear hd
  go_wp2
  go_ret2
  exact ⟨rfl, HD.out⟩
set_option maxHeartbeats 8000000 in
set_option maxRecDepth 100000 in
theorem all_fwd (k : Int) (k0 : 0 ≤ k) (k2 : k ≤ 2) (l : List Int) (A : Option Addr) (c : Nat) (w : World) (hr : ReadsInt w .i64 A l.length l) (hb : l.length * 8 ≤ 140737488355320) :
    Calls Try.prog 29 #[.int .i64 k, .slice A l.length c, .func (.func 10) #[] #[]] w fun e w' => ∃ v0_ : Value, e = .returned (.tuple #[v0_, .int .i64 (allF fwd k l).2]) ∧ Kd.R (Kd.int .i64) 3 w' w.heap.size (fun _ => True) v0_ (allF fwd k l).1 ∧ Below w.heap.size w w' := by
  have hup := Try.underlying24
  have HR := Aside0.mk hr
  have HN := Aside0.mk (New_any k k0 k2)
  have HF : Aside0 (allF fwd k l = if In32 l then (outs fwd (start k) l, 0) else ([], 1)) := ⟨by unfold allF; rw [if_pos ⟨k0, k2⟩]⟩
  have HWR := Aside0.mk (fun (y : Int) (W : World) => wrap_any y W)
  clear hr k0 k2
  go_enter Try.func29, Try.ntmps29
  go_wp2_with fail
  refine (HN.out _).mono ?_
  rintro e w1 ⟨g, cv, ls, rfl, hC, hB⟩
  have HC := Aside0.mk hC
  have HB := Aside0.mk hB
  have HO := Aside0.mk (Kd.R_nil (Kd.int .i64) 3 w1 w.heap.size (fun k => ¬ Chs g cv ls k))
  clear hC hB HN
  go_wp2
  go_loopw [9, 18] (fun ov iv wr => ∃ i : Nat, i ≤ l.length ∧ iv = .int .i64 i ∧ Aside0 (In32 (l.take i)) ∧ Aside0 (ChAt wr w.heap.size g cv ls (ends fwd (start k) (l.take i))) ∧ Aside0 (Kd.R (Kd.int .i64) 3 wr w.heap.size (fun k => ¬ Chs g cv ls k) ov (outs fwd (start k) (l.take i))) ∧ Aside0 (Below w.heap.size w wr)) (fun _ iv _ => l.length - (intOf iv).toNat)
  case atStart => exact ⟨0, Nat.zero_le _, rfl, ⟨fun x hx => by simp at hx⟩, HC, HO, HB⟩
  case round =>
    clear HC HO HB
    obtain ⟨i, hi, rfl, HI, HC, HO, HB⟩ := hrel
    by_cases hlt : i < l.length
    · have i0 : (0 : Int) ≤ (i : Int) := by omega
      have i1 : (i : Int) < (l.length : Int) := by omega
      obtain ⟨ad, rfl, hx⟩ := (HR.out.below HB.out).at_ (i : Int) (by omega) i1
      rw [Int.toNat_natCast] at hx
      have ht : l.take (i + 1) = l.take i ++ [rd l (i : Int)] := by
        rw [List.take_succ_eq_append_getElem hlt]
        simp [rd, hlt]
      have hm : rd l (i : Int) ∈ l := by simp [rd, hlt]
      generalize rd l (i : Int) = x at hx ht hm
      by_cases h32 : -2147483648 ≤ x ∧ x ≤ 2147483647
      · have hwx := wrap32_id x h32
        have hon := outs_snoc fwd x (l.take i) (start k)
        have hen := ends_snoc fwd x (l.take i) (start k)
        rw [← ht] at hon hen
        have HI2 : Aside0 (In32 (l.take (i + 1))) := ⟨fun y hy => by
          rw [ht] at hy
          rcases List.mem_append.1 hy with hy | hy
          · exact HI.out y hy
          · rw [List.mem_singleton.1 hy]; exact h32⟩
        have hol : (outs fwd (start k) (l.take i)).length = i := by rw [outs_length, List.length_take]; omega
        have HOL := Aside0.mk hol
        have hxx : (x != x) = false := by simp
        obtain ⟨x1, x2⟩ := h32
        have HON := Aside0.mk hon
        have HEN := Aside0.mk hen
        have HWX := Aside0.mk hwx
        have HS := Aside0.mk (fun (W : World) (hW : ChAt W w.heap.size g cv ls (ends fwd (start k) (l.take i))) => Forward_any w.heap.size g cv ls _ x W hW (by omega) (by omega))
        clear hon hen hwx ht hm hol
        go_wp2_with fail
        refine (HWR.out _ _).mono ?_
        rintro e w2 ⟨rfl, hd⟩
        rw [HWX.out]
        have HC2 := Aside0.mk (HC.out.of_drawn hd)
        have HO2 : Aside0 (Kd.R (Kd.int .i64) 3 w2 w.heap.size (fun k => ¬ Chs g cv ls k) u9 (outs fwd (start k) (l.take i))) := ⟨Kd.R_below HO.out hd.below⟩
        have HB2 : Aside0 (Below w.heap.size w w2) := ⟨HB.out.trans (hd.below.mono HB.out.size)⟩
        clear hd HC HO HB hx
        go_wp2_with fail
        refine (HS.out _ HC2.out).mono ?_
        rintro e w3 ⟨rfl, hC3, hM3⟩
        rw [HWX.out] at hC3 ⊢
        rw [← HEN.out] at hC3
        have HC3 := Aside0.mk hC3
        have HO3 := Aside0.mk (Kd.R_kept HO2.out hM3.kept (fun k hk hm => hk (.inr (.inr hm))))
        have HB3 := Aside0.mk (HB2.out.trans hM3.below)
        clear hC3 hM3
        generalize (fwd (ends fwd (start k) (l.take i)) x).2 = z at HON ⊢
        go_wp2_with (at_builtin; (with_reducible refine app_chain (w0 := w) (B := w.heap.size) (g := g) (cv := cv) (ls := ls) (st := ends fwd (start k) (l.take (i + 1))) (v := u9) (xs := outs fwd (start k) (l.take i)) (.tmp 26) (.tmp 31) z ?_ ?_ ?_ ?_ ?_ ?_ ?_ ?_ ?_); rfl; rfl; rfl; rfl; exact HO3.out; exact HC3.out; exact HB3.out; (rw [HOL.out]; omega); intro v1 w4 HO4 HC4 HB4)
        go_roundw
        case rel => exact ⟨i + 1, by omega, by go_num, HI2, HC4, ⟨by rw [HON.out]; exact HO4.out⟩, HB4⟩
        case measure => simp [intOf]; omega
      · have hne : (wrap32 x != x) = true := by
          have := wrap32_in x
          simp
          intro e
          rw [e] at this
          exact h32 this
        have HRES : Aside0 (allF fwd k l = ([], 1)) := ⟨by rw [HF.out, if_neg (fun q => h32 (q x hm))]⟩
        clear h32 ht hm
        go_wp2_with fail
        refine (HWR.out _ _).mono ?_
        rintro e w2 ⟨rfl, hd⟩
        have HB2 : Aside0 (Below w.heap.size w w2) := ⟨HB.out.trans (hd.below.mono HB.out.size)⟩
        clear hd
        go_wp2
        go_ret2
        rw [HRES.out]
        exact ⟨_, rfl, Kd.R_nil _ _ _ _ _, HB2.out⟩
    · obtain rfl : i = l.length := by omega
      have HRES : Aside0 (allF fwd k l = (outs fwd (start k) l, 0)) := ⟨by
        have := HI.out
        rw [List.take_length] at this
        rw [HF.out, if_pos this]⟩
      rw [List.take_length] at HO
      go_wp2
      go_ret2
      rw [HRES.out]
      exact ⟨_, rfl, Kd.R_mono HO.out (fun _ _ => trivial), HB.out⟩
end Go.Proofs.Yteljaikpechbmaa.Hand
namespace Go.Proofs.Yteljaikpechbmaa.Hand
open Go.RowKit Go.Proofs.Yteljaikpechbmaa.Q Go.Proofs.YteljaikpechbmaaW.PrintWords Go.Proofs.YteljaikpechbmaaW.PrintLast Go.Proofs.YteljaikpechbmaaW.PrintMore
set_option linter.unusedVariables false
set_option linter.unusedSimpArgs false

set_option maxHeartbeats 8000000 in
set_option maxRecDepth 100000 in
theorem all_inv_none (k : Int) (h : k < 0 ∨ 2 < k) (A : Option Addr) (n c : Nat) (w : World) :
    Calls Try.prog 29 #[.int .i64 k, .slice A n c, .func (.func 11) #[] #[]] w fun e w' => e = .returned (.tuple #[.slice none 0 0, .int .i64 1]) ∧ Drawn0 w w' := by
  have hup := Try.underlying24
  have HN := Aside0.mk (New_none k h)
  clear h
  go_enter Try.func29, Try.ntmps29
  go_wp2_with fail
  refine (HN.out _).mono ?_
  rintro e w1 ⟨rfl, hd⟩
  have HD := Aside0.mk hd
  clear hd
  go_wp2
  go_ret2
  exact ⟨rfl, HD.out⟩
set_option maxHeartbeats 8000000 in
set_option maxRecDepth 100000 in
theorem all_inv (k : Int) (k0 : 0 ≤ k) (k2 : k ≤ 2) (l : List Int) (A : Option Addr) (c : Nat) (w : World) (hr : ReadsInt w .i64 A l.length l) (hb : l.length * 8 ≤ 140737488355320) :
    Calls Try.prog 29 #[.int .i64 k, .slice A l.length c, .func (.func 11) #[] #[]] w fun e w' => ∃ v0_ : Value, e = .returned (.tuple #[v0_, .int .i64 (allF inv k l).2]) ∧ Kd.R (Kd.int .i64) 3 w' w.heap.size (fun _ => True) v0_ (allF inv k l).1 ∧ Below w.heap.size w w' := by
  have hup := Try.underlying24
  have HR := Aside0.mk hr
  have HN := Aside0.mk (New_any k k0 k2)
  have HF : Aside0 (allF inv k l = if In32 l then (outs inv (start k) l, 0) else ([], 1)) := ⟨by unfold allF; rw [if_pos ⟨k0, k2⟩]⟩
  have HWR := Aside0.mk (fun (y : Int) (W : World) => wrap_any y W)
  clear hr k0 k2
  go_enter Try.func29, Try.ntmps29
  go_wp2_with fail
  refine (HN.out _).mono ?_
  rintro e w1 ⟨g, cv, ls, rfl, hC, hB⟩
  have HC := Aside0.mk hC
  have HB := Aside0.mk hB
  have HO := Aside0.mk (Kd.R_nil (Kd.int .i64) 3 w1 w.heap.size (fun k => ¬ Chs g cv ls k))
  clear hC hB HN
  go_wp2
  go_loopw [9, 18] (fun ov iv wr => ∃ i : Nat, i ≤ l.length ∧ iv = .int .i64 i ∧ Aside0 (In32 (l.take i)) ∧ Aside0 (ChAt wr w.heap.size g cv ls (ends inv (start k) (l.take i))) ∧ Aside0 (Kd.R (Kd.int .i64) 3 wr w.heap.size (fun k => ¬ Chs g cv ls k) ov (outs inv (start k) (l.take i))) ∧ Aside0 (Below w.heap.size w wr)) (fun _ iv _ => l.length - (intOf iv).toNat)
  case atStart => exact ⟨0, Nat.zero_le _, rfl, ⟨fun x hx => by simp at hx⟩, HC, HO, HB⟩
  case round =>
    clear HC HO HB
    obtain ⟨i, hi, rfl, HI, HC, HO, HB⟩ := hrel
    by_cases hlt : i < l.length
    · have i0 : (0 : Int) ≤ (i : Int) := by omega
      have i1 : (i : Int) < (l.length : Int) := by omega
      obtain ⟨ad, rfl, hx⟩ := (HR.out.below HB.out).at_ (i : Int) (by omega) i1
      rw [Int.toNat_natCast] at hx
      have ht : l.take (i + 1) = l.take i ++ [rd l (i : Int)] := by
        rw [List.take_succ_eq_append_getElem hlt]
        simp [rd, hlt]
      have hm : rd l (i : Int) ∈ l := by simp [rd, hlt]
      generalize rd l (i : Int) = x at hx ht hm
      by_cases h32 : -2147483648 ≤ x ∧ x ≤ 2147483647
      · have hwx := wrap32_id x h32
        have hon := outs_snoc inv x (l.take i) (start k)
        have hen := ends_snoc inv x (l.take i) (start k)
        rw [← ht] at hon hen
        have HI2 : Aside0 (In32 (l.take (i + 1))) := ⟨fun y hy => by
          rw [ht] at hy
          rcases List.mem_append.1 hy with hy | hy
          · exact HI.out y hy
          · rw [List.mem_singleton.1 hy]; exact h32⟩
        have hol : (outs inv (start k) (l.take i)).length = i := by rw [outs_length, List.length_take]; omega
        have HOL := Aside0.mk hol
        have hxx : (x != x) = false := by simp
        obtain ⟨x1, x2⟩ := h32
        have HON := Aside0.mk hon
        have HEN := Aside0.mk hen
        have HWX := Aside0.mk hwx
        have HS := Aside0.mk (fun (W : World) (hW : ChAt W w.heap.size g cv ls (ends inv (start k) (l.take i))) => Inverse_any w.heap.size g cv ls _ x W hW (by omega) (by omega))
        clear hon hen hwx ht hm hol
        go_wp2_with fail
        refine (HWR.out _ _).mono ?_
        rintro e w2 ⟨rfl, hd⟩
        rw [HWX.out]
        have HC2 := Aside0.mk (HC.out.of_drawn hd)
        have HO2 : Aside0 (Kd.R (Kd.int .i64) 3 w2 w.heap.size (fun k => ¬ Chs g cv ls k) u9 (outs inv (start k) (l.take i))) := ⟨Kd.R_below HO.out hd.below⟩
        have HB2 : Aside0 (Below w.heap.size w w2) := ⟨HB.out.trans (hd.below.mono HB.out.size)⟩
        clear hd HC HO HB hx
        go_wp2_with fail
        refine (HS.out _ HC2.out).mono ?_
        rintro e w3 ⟨rfl, hC3, hM3⟩
        rw [HWX.out] at hC3 ⊢
        rw [← HEN.out] at hC3
        have HC3 := Aside0.mk hC3
        have HO3 := Aside0.mk (Kd.R_kept HO2.out hM3.kept (fun k hk hm => hk (.inr (.inr hm))))
        have HB3 := Aside0.mk (HB2.out.trans hM3.below)
        clear hC3 hM3
        generalize (inv (ends inv (start k) (l.take i)) x).2 = z at HON ⊢
        go_wp2_with (at_builtin; (with_reducible refine app_chain (w0 := w) (B := w.heap.size) (g := g) (cv := cv) (ls := ls) (st := ends inv (start k) (l.take (i + 1))) (v := u9) (xs := outs inv (start k) (l.take i)) (.tmp 26) (.tmp 31) z ?_ ?_ ?_ ?_ ?_ ?_ ?_ ?_ ?_); rfl; rfl; rfl; rfl; exact HO3.out; exact HC3.out; exact HB3.out; (rw [HOL.out]; omega); intro v1 w4 HO4 HC4 HB4)
        go_roundw
        case rel => exact ⟨i + 1, by omega, by go_num, HI2, HC4, ⟨by rw [HON.out]; exact HO4.out⟩, HB4⟩
        case measure => simp [intOf]; omega
      · have hne : (wrap32 x != x) = true := by
          have := wrap32_in x
          simp
          intro e
          rw [e] at this
          exact h32 this
        have HRES : Aside0 (allF inv k l = ([], 1)) := ⟨by rw [HF.out, if_neg (fun q => h32 (q x hm))]⟩
        clear h32 ht hm
        go_wp2_with fail
        refine (HWR.out _ _).mono ?_
        rintro e w2 ⟨rfl, hd⟩
        have HB2 : Aside0 (Below w.heap.size w w2) := ⟨HB.out.trans (hd.below.mono HB.out.size)⟩
        clear hd
        go_wp2
        go_ret2
        rw [HRES.out]
        exact ⟨_, rfl, Kd.R_nil _ _ _ _ _, HB2.out⟩
    · obtain rfl : i = l.length := by omega
      have HRES : Aside0 (allF inv k l = (outs inv (start k) l, 0)) := ⟨by
        have := HI.out
        rw [List.take_length] at this
        rw [HF.out, if_pos this]⟩
      rw [List.take_length] at HO
      go_wp2
      go_ret2
      rw [HRES.out]
      exact ⟨_, rfl, Kd.R_mono HO.out (fun _ _ => trivial), HB.out⟩
end Go.Proofs.Yteljaikpechbmaa.Hand
namespace Go.Proofs.Yteljaikpechbmaa.Hand
open Go.RowKit Go.Proofs.Yteljaikpechbmaa.Q Go.Proofs.YteljaikpechbmaaW.PrintWords Go.Proofs.YteljaikpechbmaaW.PrintLast Go.Proofs.YteljaikpechbmaaW.PrintMore
set_option linter.unusedVariables false
set_option linter.unusedSimpArgs false

set_option maxHeartbeats 4000000 in
theorem Forward_list (k : Int) (l : List Int) (A : Option Addr) (c : Nat) (w : World) (hr : ReadsInt w .i64 A l.length l) (hb : l.length * 8 ≤ 140737488355320) :
    Calls Try.prog 15 #[.int .i64 k, .slice A l.length c] w fun e w' => ∃ v0_ : Value, e = .returned (.tuple #[v0_, .int .i64 (allF fwd k l).2]) ∧ Kd.R (Kd.int .i64) 3 w' w.heap.size (fun _ => True) v0_ (allF fwd k l).1 ∧ Below w.heap.size w w' := by
  by_cases h : 0 ≤ k ∧ k ≤ 2
  · have HA := Aside0.mk (all_fwd k h.1 h.2 l A c w hr hb)
    clear hr hb h
    go_enter Try.func15, Try.ntmps15
    go_wp2_with fail
    refine HA.out.mono ?_
    rintro e w1 ⟨v, rfl, hR, hB⟩
    have HR := Aside0.mk hR
    have HB := Aside0.mk hB
    clear hR hB HA
    go_wp2
    go_ret2
    exact ⟨_, rfl, HR.out, HB.out⟩
  · have hf : allF fwd k l = ([], 1) := by unfold allF; rw [if_neg h]
    have HA := Aside0.mk (all_fwd_none k (by omega) A l.length c w)
    rw [hf]
    clear hr hb h hf
    go_enter Try.func15, Try.ntmps15
    go_wp2_with fail
    refine HA.out.mono ?_
    rintro e w1 ⟨rfl, hd⟩
    have HB := Aside0.mk hd.below
    clear hd HA
    go_wp2
    go_ret2
    exact ⟨_, rfl, Kd.R_nil _ _ _ _ _, HB.out⟩
set_option maxHeartbeats 4000000 in
theorem Inverse_list (k : Int) (l : List Int) (A : Option Addr) (c : Nat) (w : World) (hr : ReadsInt w .i64 A l.length l) (hb : l.length * 8 ≤ 140737488355320) :
    Calls Try.prog 16 #[.int .i64 k, .slice A l.length c] w fun e w' => ∃ v0_ : Value, e = .returned (.tuple #[v0_, .int .i64 (allF inv k l).2]) ∧ Kd.R (Kd.int .i64) 3 w' w.heap.size (fun _ => True) v0_ (allF inv k l).1 ∧ Below w.heap.size w w' := by
  by_cases h : 0 ≤ k ∧ k ≤ 2
  · have HA := Aside0.mk (all_inv k h.1 h.2 l A c w hr hb)
    clear hr hb h
    go_enter Try.func16, Try.ntmps16
    go_wp2_with fail
    refine HA.out.mono ?_
    rintro e w1 ⟨v, rfl, hR, hB⟩
    have HR := Aside0.mk hR
    have HB := Aside0.mk hB
    clear hR hB HA
    go_wp2
    go_ret2
    exact ⟨_, rfl, HR.out, HB.out⟩
  · have hf : allF inv k l = ([], 1) := by unfold allF; rw [if_neg h]
    have HA := Aside0.mk (all_inv_none k (by omega) A l.length c w)
    rw [hf]
    clear hr hb h hf
    go_enter Try.func16, Try.ntmps16
    go_wp2_with fail
    refine HA.out.mono ?_
    rintro e w1 ⟨rfl, hd⟩
    have HB := Aside0.mk hd.below
    clear hd HA
    go_wp2
    go_ret2
    exact ⟨_, rfl, Kd.R_nil _ _ _ _ _, HB.out⟩
end Go.Proofs.Yteljaikpechbmaa.Hand
