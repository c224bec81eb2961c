/- Contracts of layer 17, proved by hand: lists through a new chain of the reference. -/
import Derived.Test.YteljaikpechbmaaHandU
import Derived.Test.YteljaikpechbmaaHandM
namespace Go.Proofs.Yteljaikpechbmaa.Hand
open Go.RowKit Go.Proofs.Yteljaikpechbmaa.Q Go.Proofs.YteljaikpechbmaaW.PrintWords Go.Proofs.YteljaikpechbmaaW.PrintLast Go.Proofs.YteljaikpechbmaaW.PrintMore
set_option linter.unusedVariables false
set_option linter.unusedSimpArgs false

abbrev XRow (w : World) (B g : Nat) (cv : Value) (ls : List XL) (v : Value) (xs : List Int) : Prop := Kd.R (Kd.int .i64) 3 w B (fun k => ¬ XC g cv ls k) v xs
theorem XRow.moved {w w' : World} {B g : Nat} {cv v : Value} {ls ls' : List XL} {xs : List Int} (hr : XRow w B g cv ls v xs) (hm : XMoved B ls w w' ls') : XRow w' B g cv ls' v xs := by
  have hlt := Kd.R_lt hr
  have h1 := Kd.R_kept hr hm.saw.kept (fun k hk hx => hk (.inr (.inr hx)))
  obtain ⟨h0, inner, hown, hrr⟩ := h1
  refine ⟨fun k hk hx => ?_, inner, hown, hrr.imp_ (fun _ _ hm => hm)⟩
  rcases hx with hx | hx | hx
  · exact h0 k hk (.inl hx)
  · exact h0 k hk (.inr (.inl hx))
  · rcases hm.own k hx with hx | hx
    · exact h0 k hk (.inr (.inr hx))
    · have := hlt k hk
      omega
theorem XChAt.xc_lt {w : World} {B g : Nat} {v : Value} {ls : List XL} {st : List Step} (h : XChAt w B g v ls st) {k : Nat} (hk : XC g v ls k) : k < w.heap.size := by
  rcases hk with rfl | hk | hk
  · exact blk_lt h.hd
  · exact Kd.R_lt h.row k hk
  · exact (h.own_lt hk).2
theorem R_xchain {w w1 : World} {B g : Nat} {cv v : Value} {ls : List XL} {st : List Step} {xs : List Int} (h : XChAt w B g cv ls st) (hr : XRow w B g cv ls v xs) (hg : w.grownBy w1 v.ownBlock) : XChAt w1 B g cv ls st :=
  h.kept (S := fun k => v.ownBlock = some k) ⟨hg.size, fun i hi hn => hg.block i hi (fun he => hn he.symm)⟩ (fun b hb e => hr.1 b e hb)
section
variable {ops : Array Oper} {o : Oper} {a : Act} {Q : Exit → Act → World → Prop} {rest : List Oper}
theorem app_xchain {w0 W : World} {B g : Nat} {cv : Value} {ls : List XL} {st : List Step} (s x : Operand) (y : Int) {v : Value} {xs : List Int} (hgd : o.guard = none)
    (ho : o.op = .call { callee := .builtin .append, args := #[s, x], argTypes := #[22, 22] }) (hs : a.eval s = v) (hx : a.eval x = .slice (some ⟨W.heap.size, 0, none⟩) 1 1)
    (HO : XRow W B g cv ls v xs) (HC : XChAt W B g cv ls st) (HB : Below B w0 W) (hl : xs.length < 17592186044415)
    (h : ∀ v1 w1, Aside0 (XRow w1 B g cv ls v1 (xs ++ [y])) → Aside0 (XChAt w1 B g cv ls st) → Aside0 (Below B w0 w1) → wpList Try.prog ops Q rest (a.put o.dst v1) w1) :
    wpList Try.prog ops Q (o :: rest) a (W.alloc (.cells #[.int .i64 y] 3)) :=
  Kd.R_append (Kd.int .i64) (w0 := w0) B hgd s x 22 3 (.int .i64 0) 8 ho Try.underlying22 info3 rfl (by decide) (by omega) v xs y [.int .i64 y] (fun k => ¬ XC g cv ls k) (fun _ => False) hs hx rfl (fun _ hk => hk.elim)
    (fun k hk hc => by have := HC.xc_lt hc; omega) HO HB (Nat.le_trans HC.base (Nat.le_of_lt (blk_lt HC.hd))) (by omega) (fun v1 w1 h1 h2 h3 h4 => h v1 w1 ⟨h1⟩ ⟨R_xchain HC HO h3⟩ ⟨h2⟩)
end
theorem xwrap_quiet (y : Int) (W : World) : Calls Try.prog 26 #[.int .i64 y] W fun e w' => e = .returned (.int .i64 (wrap32 y)) ∧ Drawn0 W w' := xwrap_any y W
set_option maxHeartbeats 8000000 in
set_option maxRecDepth 100000 in
theorem xall_fwd_none (k : Int) (h : k < 0 ∨ 2 < k) (A : Option Addr) (n c : Nat) (w : World) :
    Calls Try.prog 31 #[.int .i64 k, .slice A n c, .bool false] w fun e w' => e = .returned (.tuple #[.slice none 0 0, .int .i64 1]) ∧ Below w.heap.size w w' := by
  have HN := Aside0.mk (xNew_none k h)
  clear h
  go_enter Try.func31, Try.ntmps31
  go_wp2_with fail
  refine (HN.out _).mono ?_
  rintro e w1 ⟨rfl, hd⟩
  have HD := Aside0.mk hd
  clear hd
  go_wp2
  go_ret2
  exact ⟨rfl, HD.out⟩
set_option maxHeartbeats 8000000 in
set_option maxRecDepth 100000 in
theorem xall_fwd (k : Nat) (k2 : k ≤ 2) (l : List Int) (A : Option Addr) (c : Nat) (w : World) (hr : ReadsInt w .i64 A l.length l) (hb : l.length * 8 ≤ 140737488355320) :
    Calls Try.prog 31 #[.int .i64 k, .slice A l.length c, .bool false] w fun e w' => ∃ v0_ : Value, e = .returned (.tuple #[v0_, .int .i64 (allF fwd k l).2]) ∧ Kd.R (Kd.int .i64) 3 w' w.heap.size (fun _ => True) v0_ (allF fwd k l).1 ∧ Below w.heap.size w w' := by
  have HR := Aside0.mk hr
  have HN := Aside0.mk (xNew_any k k2)
  have HF : Aside0 (allF fwd k l = if In32 l then (outs fwd (start k) l, 0) else ([], 1)) := ⟨by unfold allF; rw [if_pos ⟨by omega, by omega⟩]⟩
  have HWR := Aside0.mk (fun (y : Int) (W : World) => xwrap_any y W)
  clear hr k2
  go_enter Try.func31, Try.ntmps31
  go_wp2_with fail
  refine (HN.out _).mono ?_
  rintro e w1 ⟨g, cv, ls, rfl, hC, hB⟩
  have HC := Aside0.mk hC
  have HB := Aside0.mk hB
  have HO : Aside0 (XRow w1 w.heap.size g cv ls (.slice none 0 0) []) := ⟨Kd.R_nil (Kd.int .i64) 3 w1 w.heap.size (fun k => ¬ XC g cv ls k)⟩
  clear hC hB HN
  go_wp2
  go_loopw [9, 10] (fun ov iv wr => ∃ (i : Nat) (ls : List XL), i ≤ l.length ∧ iv = .int .i64 i ∧ Aside0 (In32 (l.take i)) ∧ Aside0 (XChAt wr w.heap.size g cv ls (ends fwd (start k) (l.take i))) ∧ Aside0 (XRow wr w.heap.size g cv ls ov (outs fwd (start k) (l.take i))) ∧ Aside0 (Below w.heap.size w wr)) (fun _ iv _ => l.length - (intOf iv).toNat)
  case atStart => exact ⟨0, ls, Nat.zero_le _, rfl, ⟨fun x hx => by simp at hx⟩, HC, HO, HB⟩
  case round =>
    clear HC HO HB ls
    obtain ⟨i, ls, hi, rfl, HI, HC, HO, HB⟩ := hrel
    by_cases hlt : i < l.length
    · have i0 : (0 : Int) ≤ (i : Int) := by omega
      have i1 : (i : Int) < (l.length : Int) := by omega
      obtain ⟨ad, rfl, hx⟩ := (HR.out.below HB.out).at_ (i : Int) (by omega) i1
      rw [Int.toNat_natCast] at hx
      have ht : l.take (i + 1) = l.take i ++ [rd l (i : Int)] := by
        rw [List.take_succ_eq_append_getElem hlt]
        simp [rd, hlt]
      have hm : rd l (i : Int) ∈ l := by simp [rd, hlt]
      generalize rd l (i : Int) = x at hx ht hm
      by_cases h32 : -2147483648 ≤ x ∧ x ≤ 2147483647
      · have hwx := wrap32_id x h32
        have hon := outs_snoc fwd x (l.take i) (start k)
        have hen := ends_snoc fwd x (l.take i) (start k)
        rw [← ht] at hon hen
        have HI2 : Aside0 (In32 (l.take (i + 1))) := ⟨fun y hy => by
          rw [ht] at hy
          rcases List.mem_append.1 hy with hy | hy
          · exact HI.out y hy
          · rw [List.mem_singleton.1 hy]; exact h32⟩
        have hol : (outs fwd (start k) (l.take i)).length = i := by rw [outs_length, List.length_take]; omega
        have HOL := Aside0.mk hol
        have hxx : (x != x) = false := by simp
        obtain ⟨x1, x2⟩ := h32
        have HON := Aside0.mk hon
        have HEN := Aside0.mk hen
        have HWX := Aside0.mk hwx
        have HQ : Aside0 (∀ W : World, Calls Try.prog 26 #[.int .i64 x] W fun e w' => e = .returned (.int .i64 x) ∧ ∃ m, w' = W.drewN m) := ⟨fun W => by have := xwrap_any x W; rw [hwx] at this; exact this.mono (fun e w' h => ⟨h.1, by obtain ⟨m, rfl⟩ := h.2; exact ⟨m, rfl⟩⟩)⟩
        have HS := Aside0.mk (fun (W : World) (hW : XChAt W w.heap.size g cv ls (ends fwd (start k) (l.take i))) => xForward_any w.heap.size g cv ls _ x W hW (by omega) (by omega))
        clear hon hen hwx ht hm hol
        go_wp2
        go_big_quiet ((go_at_call 26; exact Calls.quiet_of (HQ.out _)))
        have HC2 := Aside0.mk (HC.out.below (pw_below_drewN (Below.refl _ _) nq))
        have HO2 : Aside0 (XRow (wr.drewN nq) w.heap.size g cv ls u9 (outs fwd (start k) (l.take i))) := ⟨Kd.R_below HO.out (pw_below_drewN (Below.refl _ _) nq)⟩
        have HB2 : Aside0 (Below w.heap.size w (wr.drewN nq)) := ⟨pw_below_drewN HB.out nq⟩
        have hx2 : (wr.drewN nq).cell? (ad.add i) = some (.int .i64 x) := hx
        clear HC HO HB hx
        generalize wr.drewN nq = w2 at HC2 HO2 HB2 hx2 ⊢
        go_wp2_with fail
        refine (HS.out _ HC2.out).mono ?_
        rintro e w3 ⟨rfl, ls3, hC3, hM3⟩
        rw [HWX.out] at hC3 ⊢
        rw [← HEN.out] at hC3
        have HC3 := Aside0.mk hC3
        have HO3 := Aside0.mk (HO2.out.moved hM3)
        have HB3 := Aside0.mk (HB2.out.trans hM3.saw.below)
        clear hC3 hM3
        generalize (fwd (ends fwd (start k) (l.take i)) x).2 = z at HON ⊢
        go_wp2_with (at_builtin; (with_reducible refine app_xchain (w0 := w) (B := w.heap.size) (g := g) (cv := cv) (ls := ls3) (st := ends fwd (start k) (l.take (i + 1))) (v := u9) (xs := outs fwd (start k) (l.take i)) (.tmp 41) (.tmp 48) z ?_ ?_ ?_ ?_ ?_ ?_ ?_ ?_ ?_); rfl; rfl; rfl; rfl; exact HO3.out; exact HC3.out; exact HB3.out; (rw [HOL.out]; omega); intro v1 w4 HO4 HC4 HB4)
        go_roundw
        case rel => exact ⟨i + 1, ls3, by omega, by go_num, HI2, HC4, ⟨by rw [HON.out]; exact HO4.out⟩, HB4⟩
        case measure => simp [intOf]; omega
      · have hne : (x != wrap32 x) = true := by
          have := wrap32_in x
          simp
          intro e
          rw [← e] at this
          exact h32 this
        have HRES : Aside0 (allF fwd k l = ([], 1)) := ⟨by rw [HF.out, if_neg (fun q => h32 (q x hm))]⟩
        have HQ : Aside0 (∀ W : World, Calls Try.prog 26 #[.int .i64 x] W fun e w' => e = .returned (.int .i64 (wrap32 x)) ∧ ∃ m, w' = W.drewN m) := ⟨fun W => (xwrap_any x W).mono (fun e w' h => ⟨h.1, by obtain ⟨m, rfl⟩ := h.2; exact ⟨m, rfl⟩⟩)⟩
        generalize wrap32 x = y at hne HQ
        clear h32 ht hm
        go_wp2
        go_big_quiet ((go_at_call 26; exact Calls.quiet_of (HQ.out _)))
        have HB2 : Aside0 (Below w.heap.size w (wr.drewN nq)) := ⟨pw_below_drewN HB.out nq⟩
        go_wp2
        go_ret2
        rw [HRES.out]
        exact ⟨_, rfl, Kd.R_nil _ _ _ _ _, HB2.out⟩
    · obtain rfl : i = l.length := by omega
      have HRES : Aside0 (allF fwd k l = (outs fwd (start k) l, 0)) := ⟨by
        have := HI.out
        rw [List.take_length] at this
        rw [HF.out, if_pos this]⟩
      rw [List.take_length] at HO
      go_wp2
      go_ret2
      rw [HRES.out]
      exact ⟨_, rfl, Kd.R_mono HO.out (fun _ _ => trivial), HB.out⟩
end Go.Proofs.Yteljaikpechbmaa.Hand
namespace Go.Proofs.Yteljaikpechbmaa.Hand
open Go.RowKit Go.Proofs.Yteljaikpechbmaa.Q Go.Proofs.YteljaikpechbmaaW.PrintWords Go.Proofs.YteljaikpechbmaaW.PrintLast Go.Proofs.YteljaikpechbmaaW.PrintMore
set_option linter.unusedVariables false
set_option linter.unusedSimpArgs false

set_option maxHeartbeats 8000000 in
set_option maxRecDepth 100000 in
theorem xall_inv_none (k : Int) (h : k < 0 ∨ 2 < k) (A : Option Addr) (n c : Nat) (w : World) :
    Calls Try.prog 31 #[.int .i64 k, .slice A n c, .bool true] w fun e w' => e = .returned (.tuple #[.slice none 0 0, .int .i64 1]) ∧ Below w.heap.size w w' := by
  have HN := Aside0.mk (xNew_none k h)
  clear h
  go_enter Try.func31, Try.ntmps31
  go_wp2_with fail
  refine (HN.out _).mono ?_
  rintro e w1 ⟨rfl, hd⟩
  have HD := Aside0.mk hd
  clear hd
  go_wp2
  go_ret2
  exact ⟨rfl, HD.out⟩
set_option maxHeartbeats 8000000 in
set_option maxRecDepth 100000 in
theorem xall_inv (k : Nat) (k2 : k ≤ 2) (l : List Int) (A : Option Addr) (c : Nat) (w : World) (hr : ReadsInt w .i64 A l.length l) (hb : l.length * 8 ≤ 140737488355320) :
    Calls Try.prog 31 #[.int .i64 k, .slice A l.length c, .bool true] w fun e w' => ∃ v0_ : Value, e = .returned (.tuple #[v0_, .int .i64 (allF inv k l).2]) ∧ Kd.R (Kd.int .i64) 3 w' w.heap.size (fun _ => True) v0_ (allF inv k l).1 ∧ Below w.heap.size w w' := by
  have HR := Aside0.mk hr
  have HN := Aside0.mk (xNew_any k k2)
  have HF : Aside0 (allF inv k l = if In32 l then (outs inv (start k) l, 0) else ([], 1)) := ⟨by unfold allF; rw [if_pos ⟨by omega, by omega⟩]⟩
  have HWR := Aside0.mk (fun (y : Int) (W : World) => xwrap_any y W)
  clear hr k2
  go_enter Try.func31, Try.ntmps31
  go_wp2_with fail
  refine (HN.out _).mono ?_
  rintro e w1 ⟨g, cv, ls, rfl, hC, hB⟩
  have HC := Aside0.mk hC
  have HB := Aside0.mk hB
  have HO : Aside0 (XRow w1 w.heap.size g cv ls (.slice none 0 0) []) := ⟨Kd.R_nil (Kd.int .i64) 3 w1 w.heap.size (fun k => ¬ XC g cv ls k)⟩
  clear hC hB HN
  go_wp2
  go_loopw [9, 10] (fun ov iv wr => ∃ (i : Nat) (ls : List XL), i ≤ l.length ∧ iv = .int .i64 i ∧ Aside0 (In32 (l.take i)) ∧ Aside0 (XChAt wr w.heap.size g cv ls (ends inv (start k) (l.take i))) ∧ Aside0 (XRow wr w.heap.size g cv ls ov (outs inv (start k) (l.take i))) ∧ Aside0 (Below w.heap.size w wr)) (fun _ iv _ => l.length - (intOf iv).toNat)
  case atStart => exact ⟨0, ls, Nat.zero_le _, rfl, ⟨fun x hx => by simp at hx⟩, HC, HO, HB⟩
  case round =>
    clear HC HO HB ls
    obtain ⟨i, ls, hi, rfl, HI, HC, HO, HB⟩ := hrel
    by_cases hlt : i < l.length
    · have i0 : (0 : Int) ≤ (i : Int) := by omega
      have i1 : (i : Int) < (l.length : Int) := by omega
      obtain ⟨ad, rfl, hx⟩ := (HR.out.below HB.out).at_ (i : Int) (by omega) i1
      rw [Int.toNat_natCast] at hx
      have ht : l.take (i + 1) = l.take i ++ [rd l (i : Int)] := by
        rw [List.take_succ_eq_append_getElem hlt]
        simp [rd, hlt]
      have hm : rd l (i : Int) ∈ l := by simp [rd, hlt]
      generalize rd l (i : Int) = x at hx ht hm
      by_cases h32 : -2147483648 ≤ x ∧ x ≤ 2147483647
      · have hwx := wrap32_id x h32
        have hon := outs_snoc inv x (l.take i) (start k)
        have hen := ends_snoc inv x (l.take i) (start k)
        rw [← ht] at hon hen
        have HI2 : Aside0 (In32 (l.take (i + 1))) := ⟨fun y hy => by
          rw [ht] at hy
          rcases List.mem_append.1 hy with hy | hy
          · exact HI.out y hy
          · rw [List.mem_singleton.1 hy]; exact h32⟩
        have hol : (outs inv (start k) (l.take i)).length = i := by rw [outs_length, List.length_take]; omega
        have HOL := Aside0.mk hol
        have hxx : (x != x) = false := by simp
        obtain ⟨x1, x2⟩ := h32
        have HON := Aside0.mk hon
        have HEN := Aside0.mk hen
        have HWX := Aside0.mk hwx
        have HQ : Aside0 (∀ W : World, Calls Try.prog 26 #[.int .i64 x] W fun e w' => e = .returned (.int .i64 x) ∧ ∃ m, w' = W.drewN m) := ⟨fun W => by have := xwrap_any x W; rw [hwx] at this; exact this.mono (fun e w' h => ⟨h.1, by obtain ⟨m, rfl⟩ := h.2; exact ⟨m, rfl⟩⟩)⟩
        have HS := Aside0.mk (fun (W : World) (hW : XChAt W w.heap.size g cv ls (ends inv (start k) (l.take i))) => xInverse_any w.heap.size g cv ls _ x W hW (by omega) (by omega))
        clear hon hen hwx ht hm hol
        go_wp2
        go_big_quiet ((go_at_call 26; exact Calls.quiet_of (HQ.out _)))
        have HC2 := Aside0.mk (HC.out.below (pw_below_drewN (Below.refl _ _) nq))
        have HO2 : Aside0 (XRow (wr.drewN nq) w.heap.size g cv ls u9 (outs inv (start k) (l.take i))) := ⟨Kd.R_below HO.out (pw_below_drewN (Below.refl _ _) nq)⟩
        have HB2 : Aside0 (Below w.heap.size w (wr.drewN nq)) := ⟨pw_below_drewN HB.out nq⟩
        have hx2 : (wr.drewN nq).cell? (ad.add i) = some (.int .i64 x) := hx
        clear HC HO HB hx
        generalize wr.drewN nq = w2 at HC2 HO2 HB2 hx2 ⊢
        go_wp2_with fail
        refine (HS.out _ HC2.out).mono ?_
        rintro e w3 ⟨rfl, ls3, hC3, hM3⟩
        rw [HWX.out] at hC3 ⊢
        rw [← HEN.out] at hC3
        have HC3 := Aside0.mk hC3
        have HO3 := Aside0.mk (HO2.out.moved hM3)
        have HB3 := Aside0.mk (HB2.out.trans hM3.saw.below)
        clear hC3 hM3
        generalize (inv (ends inv (start k) (l.take i)) x).2 = z at HON ⊢
        go_wp2_with (at_builtin; (with_reducible refine app_xchain (w0 := w) (B := w.heap.size) (g := g) (cv := cv) (ls := ls3) (st := ends inv (start k) (l.take (i + 1))) (v := u9) (xs := outs inv (start k) (l.take i)) (.tmp 32) (.tmp 39) z ?_ ?_ ?_ ?_ ?_ ?_ ?_ ?_ ?_); rfl; rfl; rfl; rfl; exact HO3.out; exact HC3.out; exact HB3.out; (rw [HOL.out]; omega); intro v1 w4 HO4 HC4 HB4)
        go_roundw
        case rel => exact ⟨i + 1, ls3, by omega, by go_num, HI2, HC4, ⟨by rw [HON.out]; exact HO4.out⟩, HB4⟩
        case measure => simp [intOf]; omega
      · have hne : (x != wrap32 x) = true := by
          have := wrap32_in x
          simp
          intro e
          rw [← e] at this
          exact h32 this
        have HRES : Aside0 (allF inv k l = ([], 1)) := ⟨by rw [HF.out, if_neg (fun q => h32 (q x hm))]⟩
        have HQ : Aside0 (∀ W : World, Calls Try.prog 26 #[.int .i64 x] W fun e w' => e = .returned (.int .i64 (wrap32 x)) ∧ ∃ m, w' = W.drewN m) := ⟨fun W => (xwrap_any x W).mono (fun e w' h => ⟨h.1, by obtain ⟨m, rfl⟩ := h.2; exact ⟨m, rfl⟩⟩)⟩
        generalize wrap32 x = y at hne HQ
        clear h32 ht hm
        go_wp2
        go_big_quiet ((go_at_call 26; exact Calls.quiet_of (HQ.out _)))
        have HB2 : Aside0 (Below w.heap.size w (wr.drewN nq)) := ⟨pw_below_drewN HB.out nq⟩
        go_wp2
        go_ret2
        rw [HRES.out]
        exact ⟨_, rfl, Kd.R_nil _ _ _ _ _, HB2.out⟩
    · obtain rfl : i = l.length := by omega
      have HRES : Aside0 (allF inv k l = (outs inv (start k) l, 0)) := ⟨by
        have := HI.out
        rw [List.take_length] at this
        rw [HF.out, if_pos this]⟩
      rw [List.take_length] at HO
      go_wp2
      go_ret2
      rw [HRES.out]
      exact ⟨_, rfl, Kd.R_mono HO.out (fun _ _ => trivial), HB.out⟩
end Go.Proofs.Yteljaikpechbmaa.Hand
namespace Go.Proofs.Yteljaikpechbmaa.Hand
open Go.RowKit Go.Proofs.Yteljaikpechbmaa.Q Go.Proofs.YteljaikpechbmaaW.PrintWords Go.Proofs.YteljaikpechbmaaW.PrintLast Go.Proofs.YteljaikpechbmaaW.PrintMore
set_option linter.unusedVariables false
set_option linter.unusedSimpArgs false

set_option maxHeartbeats 4000000 in
theorem xForward_list (k : Int) (l : List Int) (A : Option Addr) (c : Nat) (w : World) (hr : ReadsInt w .i64 A l.length l) (hb : l.length * 8 ≤ 140737488355320) :
    Calls Try.prog 18 #[.int .i64 k, .slice A l.length c] w fun e w' => ∃ v0_ : Value, e = .returned (.tuple #[v0_, .int .i64 (allF fwd k l).2]) ∧ Kd.R (Kd.int .i64) 3 w' w.heap.size (fun _ => True) v0_ (allF fwd k l).1 ∧ Below w.heap.size w w' := by
  by_cases h : 0 ≤ k ∧ k ≤ 2
  · obtain ⟨kn, rfl⟩ : ∃ kn : Nat, k = (kn : Int) := ⟨k.toNat, by omega⟩
    have HA := Aside0.mk (xall_fwd kn (by omega) l A c w hr hb)
    generalize (kn : Int) = k at HA ⊢
    clear hr hb h
    go_enter Try.func18, Try.ntmps18
    go_wp2_with fail
    refine HA.out.mono ?_
    rintro e w1 ⟨v, rfl, hR, hB⟩
    have HR := Aside0.mk hR
    have HB := Aside0.mk hB
    clear hR hB HA
    go_wp2
    go_ret2
    exact ⟨_, rfl, HR.out, HB.out⟩
  · have hf : allF fwd k l = ([], 1) := by unfold allF; rw [if_neg h]
    have HA := Aside0.mk (xall_fwd_none k (by omega) A l.length c w)
    rw [hf]
    clear hr hb h hf
    go_enter Try.func18, Try.ntmps18
    go_wp2_with fail
    refine HA.out.mono ?_
    rintro e w1 ⟨rfl, hd⟩
    have HB := Aside0.mk hd
    clear hd HA
    go_wp2
    go_ret2
    exact ⟨_, rfl, Kd.R_nil _ _ _ _ _, HB.out⟩
set_option maxHeartbeats 4000000 in
theorem xInverse_list (k : Int) (l : List Int) (A : Option Addr) (c : Nat) (w : World) (hr : ReadsInt w .i64 A l.length l) (hb : l.length * 8 ≤ 140737488355320) :
    Calls Try.prog 19 #[.int .i64 k, .slice A l.length c] w fun e w' => ∃ v0_ : Value, e = .returned (.tuple #[v0_, .int .i64 (allF inv k l).2]) ∧ Kd.R (Kd.int .i64) 3 w' w.heap.size (fun _ => True) v0_ (allF inv k l).1 ∧ Below w.heap.size w w' := by
  by_cases h : 0 ≤ k ∧ k ≤ 2
  · obtain ⟨kn, rfl⟩ : ∃ kn : Nat, k = (kn : Int) := ⟨k.toNat, by omega⟩
    have HA := Aside0.mk (xall_inv kn (by omega) l A c w hr hb)
    generalize (kn : Int) = k at HA ⊢
    clear hr hb h
    go_enter Try.func19, Try.ntmps19
    go_wp2_with fail
    refine HA.out.mono ?_
    rintro e w1 ⟨v, rfl, hR, hB⟩
    have HR := Aside0.mk hR
    have HB := Aside0.mk hB
    clear hR hB HA
    go_wp2
    go_ret2
    exact ⟨_, rfl, HR.out, HB.out⟩
  · have hf : allF inv k l = ([], 1) := by unfold allF; rw [if_neg h]
    have HA := Aside0.mk (xall_inv_none k (by omega) A l.length c w)
    rw [hf]
    clear hr hb h hf
    go_enter Try.func19, Try.ntmps19
    go_wp2_with fail
    refine HA.out.mono ?_
    rintro e w1 ⟨rfl, hd⟩
    have HB := Aside0.mk hd
    clear hd HA
    go_wp2
    go_ret2
    exact ⟨_, rfl, Kd.R_nil _ _ _ _ _, HB.out⟩
end Go.Proofs.Yteljaikpechbmaa.Hand
