/- Contracts of layer 17, proved by hand: lists through a new chain. -/
import Derived.Test.YteljaikpechbmaaHandJ
namespace Go.Proofs.Yteljaikpechbmaa.Hand
open Go.RowKit Go.Proofs.Yteljaikpechbmaa.Q Go.Proofs.YteljaikpechbmaaW.PrintWords Go.Proofs.YteljaikpechbmaaW.PrintLast Go.Proofs.YteljaikpechbmaaW.PrintMore
set_option linter.unusedVariables false
set_option linter.unusedSimpArgs false

set_option maxHeartbeats 8000000 in
set_option maxRecDepth 100000 in
theorem all_inv_none (k : Int) (h : k < 0 ∨ 2 < k) (A : Option Addr) (n c : Nat) (w : World) :
    Calls Try.prog 29 #[.int .i64 k, .slice A n c, .func (.func 11) #[] #[]] w fun e w' => e = .returned (.tuple #[.slice none 0 0, .int .i64 1]) ∧ Drawn0 w w' := by
  have hup := Try.underlying24
  have HN := Aside0.mk (New_none k h)
  clear h
  go_enter Try.func29, Try.ntmps29
  go_wp2_with fail
  refine (HN.out _).mono ?_
  rintro e w1 ⟨rfl, hd⟩
  have HD := Aside0.mk hd
  clear hd
  go_wp2
  go_ret2
  exact ⟨rfl, HD.out⟩
set_option maxHeartbeats 8000000 in
set_option maxRecDepth 100000 in
theorem all_inv (k : Int) (k0 : 0 ≤ k) (k2 : k ≤ 2) (l : List Int) (A : Option Addr) (c : Nat) (w : World) (hr : ReadsInt w .i64 A l.length l) (hb : l.length * 8 ≤ 140737488355320) :
    Calls Try.prog 29 #[.int .i64 k, .slice A l.length c, .func (.func 11) #[] #[]] w fun e w' => ∃ v0_ : Value, e = .returned (.tuple #[v0_, .int .i64 (allF inv k l).2]) ∧ Kd.R (Kd.int .i64) 3 w' w.heap.size (fun _ => True) v0_ (allF inv k l).1 ∧ Below w.heap.size w w' := by
  have hup := Try.underlying24
  have HR := Aside0.mk hr
  have HN := Aside0.mk (New_any k k0 k2)
  have HF : Aside0 (allF inv k l = if In32 l then (outs inv (start k) l, 0) else ([], 1)) := ⟨by unfold allF; rw [if_pos ⟨k0, k2⟩]⟩
  have HWR := Aside0.mk (fun (y : Int) (W : World) => wrap_any y W)
  clear hr k0 k2
  go_enter Try.func29, Try.ntmps29
  go_wp2_with fail
  refine (HN.out _).mono ?_
  rintro e w1 ⟨g, cv, ls, rfl, hC, hB⟩
  have HC := Aside0.mk hC
  have HB := Aside0.mk hB
  have HO := Aside0.mk (Kd.R_nil (Kd.int .i64) 3 w1 w.heap.size (fun k => ¬ Chs g cv ls k))
  clear hC hB HN
  go_wp2
  go_loopw [9, 18] (fun ov iv wr => ∃ i : Nat, i ≤ l.length ∧ iv = .int .i64 i ∧ Aside0 (In32 (l.take i)) ∧ Aside0 (ChAt wr w.heap.size g cv ls (ends inv (start k) (l.take i))) ∧ Aside0 (Kd.R (Kd.int .i64) 3 wr w.heap.size (fun k => ¬ Chs g cv ls k) ov (outs inv (start k) (l.take i))) ∧ Aside0 (Below w.heap.size w wr)) (fun _ iv _ => l.length - (intOf iv).toNat)
  case atStart => exact ⟨0, Nat.zero_le _, rfl, ⟨fun x hx => by simp at hx⟩, HC, HO, HB⟩
  case round =>
    clear HC HO HB
    obtain ⟨i, hi, rfl, HI, HC, HO, HB⟩ := hrel
    by_cases hlt : i < l.length
    · have i0 : (0 : Int) ≤ (i : Int) := by omega
      have i1 : (i : Int) < (l.length : Int) := by omega
      obtain ⟨ad, rfl, hx⟩ := (HR.out.below HB.out).at_ (i : Int) (by omega) i1
      rw [Int.toNat_natCast] at hx
      have ht : l.take (i + 1) = l.take i ++ [rd l (i : Int)] := by
        rw [List.take_succ_eq_append_getElem hlt]
        simp [rd, hlt]
      have hm : rd l (i : Int) ∈ l := by simp [rd, hlt]
      generalize rd l (i : Int) = x at hx ht hm
      by_cases h32 : -2147483648 ≤ x ∧ x ≤ 2147483647
      · have hwx := wrap32_id x h32
        have hon := outs_snoc inv x (l.take i) (start k)
        have hen := ends_snoc inv x (l.take i) (start k)
        rw [← ht] at hon hen
        have HI2 : Aside0 (In32 (l.take (i + 1))) := ⟨fun y hy => by
          rw [ht] at hy
          rcases List.mem_append.1 hy with hy | hy
          · exact HI.out y hy
          · rw [List.mem_singleton.1 hy]; exact h32⟩
        have hol : (outs inv (start k) (l.take i)).length = i := by rw [outs_length, List.length_take]; omega
        have HOL := Aside0.mk hol
        have hxx : (x != x) = false := by simp
        obtain ⟨x1, x2⟩ := h32
        have HON := Aside0.mk hon
        have HEN := Aside0.mk hen
        have HWX := Aside0.mk hwx
        have HS := Aside0.mk (fun (W : World) (hW : ChAt W w.heap.size g cv ls (ends inv (start k) (l.take i))) => Inverse_any w.heap.size g cv ls _ x W hW (by omega) (by omega))
        clear hon hen hwx ht hm hol
        go_wp2_with fail
        refine (HWR.out _ _).mono ?_
        rintro e w2 ⟨rfl, hd⟩
        rw [HWX.out]
        have HC2 := Aside0.mk (HC.out.of_drawn hd)
        have HO2 : Aside0 (Kd.R (Kd.int .i64) 3 w2 w.heap.size (fun k => ¬ Chs g cv ls k) u9 (outs inv (start k) (l.take i))) := ⟨Kd.R_below HO.out hd.below⟩
        have HB2 : Aside0 (Below w.heap.size w w2) := ⟨HB.out.trans (hd.below.mono HB.out.size)⟩
        clear hd HC HO HB hx
        go_wp2_with fail
        refine (HS.out _ HC2.out).mono ?_
        rintro e w3 ⟨rfl, hC3, hM3⟩
        rw [HWX.out] at hC3 ⊢
        rw [← HEN.out] at hC3
        have HC3 := Aside0.mk hC3
        have HO3 := Aside0.mk (Kd.R_kept HO2.out hM3.kept (fun k hk hm => hk (.inr (.inr hm))))
        have HB3 := Aside0.mk (HB2.out.trans hM3.below)
        clear hC3 hM3
        generalize (inv (ends inv (start k) (l.take i)) x).2 = z at HON ⊢
        go_wp2_with (at_builtin; (with_reducible refine app_chain (w0 := w) (B := w.heap.size) (g := g) (cv := cv) (ls := ls) (st := ends inv (start k) (l.take (i + 1))) (v := u9) (xs := outs inv (start k) (l.take i)) (.tmp 26) (.tmp 31) z ?_ ?_ ?_ ?_ ?_ ?_ ?_ ?_ ?_); rfl; rfl; rfl; rfl; exact HO3.out; exact HC3.out; exact HB3.out; (rw [HOL.out]; omega); intro v1 w4 HO4 HC4 HB4)
        go_roundw
        case rel => exact ⟨i + 1, by omega, by go_num, HI2, HC4, ⟨by rw [HON.out]; exact HO4.out⟩, HB4⟩
        case measure => simp [intOf]; omega
      · have hne : (wrap32 x != x) = true := by
          have := wrap32_in x
          simp
          intro e
          rw [e] at this
          exact h32 this
        have HRES : Aside0 (allF inv k l = ([], 1)) := ⟨by rw [HF.out, if_neg (fun q => h32 (q x hm))]⟩
        clear h32 ht hm
        go_wp2_with fail
        refine (HWR.out _ _).mono ?_
        rintro e w2 ⟨rfl, hd⟩
        have HB2 : Aside0 (Below w.heap.size w w2) := ⟨HB.out.trans (hd.below.mono HB.out.size)⟩
        clear hd
        go_wp2
        go_ret2
        rw [HRES.out]
        exact ⟨_, rfl, Kd.R_nil _ _ _ _ _, HB2.out⟩
    · obtain rfl : i = l.length := by omega
      have HRES : Aside0 (allF inv k l = (outs inv (start k) l, 0)) := ⟨by
        have := HI.out
        rw [List.take_length] at this
        rw [HF.out, if_pos this]⟩
      rw [List.take_length] at HO
      go_wp2
      go_ret2
      rw [HRES.out]
      exact ⟨_, rfl, Kd.R_mono HO.out (fun _ _ => trivial), HB.out⟩
end Go.Proofs.Yteljaikpechbmaa.Hand
