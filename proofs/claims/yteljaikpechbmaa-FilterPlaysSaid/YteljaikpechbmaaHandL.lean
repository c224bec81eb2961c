/- Contracts of layer 17, proved by hand: Forward and Inverse of lists. -/
import Derived.Test.YteljaikpechbmaaHandK
namespace Go.Proofs.Yteljaikpechbmaa.Hand
open Go.RowKit Go.Proofs.Yteljaikpechbmaa.Q Go.Proofs.YteljaikpechbmaaW.PrintWords Go.Proofs.YteljaikpechbmaaW.PrintLast Go.Proofs.YteljaikpechbmaaW.PrintMore
set_option linter.unusedVariables false
set_option linter.unusedSimpArgs false

set_option maxHeartbeats 4000000 in
theorem Forward_list (k : Int) (l : List Int) (A : Option Addr) (c : Nat) (w : World) (hr : ReadsInt w .i64 A l.length l) (hb : l.length * 8 ≤ 140737488355320) :
    Calls Try.prog 15 #[.int .i64 k, .slice A l.length c] w fun e w' => ∃ v0_ : Value, e = .returned (.tuple #[v0_, .int .i64 (allF fwd k l).2]) ∧ Kd.R (Kd.int .i64) 3 w' w.heap.size (fun _ => True) v0_ (allF fwd k l).1 ∧ Below w.heap.size w w' := by
  by_cases h : 0 ≤ k ∧ k ≤ 2
  · have HA := Aside0.mk (all_fwd k h.1 h.2 l A c w hr hb)
    clear hr hb h
    go_enter Try.func15, Try.ntmps15
    go_wp2_with fail
    refine HA.out.mono ?_
    rintro e w1 ⟨v, rfl, hR, hB⟩
    have HR := Aside0.mk hR
    have HB := Aside0.mk hB
    clear hR hB HA
    go_wp2
    go_ret2
    exact ⟨_, rfl, HR.out, HB.out⟩
  · have hf : allF fwd k l = ([], 1) := by unfold allF; rw [if_neg h]
    have HA := Aside0.mk (all_fwd_none k (by omega) A l.length c w)
    rw [hf]
    clear hr hb h hf
    go_enter Try.func15, Try.ntmps15
    go_wp2_with fail
    refine HA.out.mono ?_
    rintro e w1 ⟨rfl, hd⟩
    have HB := Aside0.mk hd.below
    clear hd HA
    go_wp2
    go_ret2
    exact ⟨_, rfl, Kd.R_nil _ _ _ _ _, HB.out⟩
set_option maxHeartbeats 4000000 in
theorem Inverse_list (k : Int) (l : List Int) (A : Option Addr) (c : Nat) (w : World) (hr : ReadsInt w .i64 A l.length l) (hb : l.length * 8 ≤ 140737488355320) :
    Calls Try.prog 16 #[.int .i64 k, .slice A l.length c] w fun e w' => ∃ v0_ : Value, e = .returned (.tuple #[v0_, .int .i64 (allF inv k l).2]) ∧ Kd.R (Kd.int .i64) 3 w' w.heap.size (fun _ => True) v0_ (allF inv k l).1 ∧ Below w.heap.size w w' := by
  by_cases h : 0 ≤ k ∧ k ≤ 2
  · have HA := Aside0.mk (all_inv k h.1 h.2 l A c w hr hb)
    clear hr hb h
    go_enter Try.func16, Try.ntmps16
    go_wp2_with fail
    refine HA.out.mono ?_
    rintro e w1 ⟨v, rfl, hR, hB⟩
    have HR := Aside0.mk hR
    have HB := Aside0.mk hB
    clear hR hB HA
    go_wp2
    go_ret2
    exact ⟨_, rfl, HR.out, HB.out⟩
  · have hf : allF inv k l = ([], 1) := by unfold allF; rw [if_neg h]
    have HA := Aside0.mk (all_inv_none k (by omega) A l.length c w)
    rw [hf]
    clear hr hb h hf
    go_enter Try.func16, Try.ntmps16
    go_wp2_with fail
    refine HA.out.mono ?_
    rintro e w1 ⟨rfl, hd⟩
    have HB := Aside0.mk hd.below
    clear hd HA
    go_wp2
    go_ret2
    exact ⟨_, rfl, Kd.R_nil _ _ _ _ _, HB.out⟩
end Go.Proofs.Yteljaikpechbmaa.Hand
