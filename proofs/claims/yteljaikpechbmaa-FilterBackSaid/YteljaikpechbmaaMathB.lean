/- The plain laws of layer 17: what was left over, run back. -/
import Derived.Test.YteljaikpechbmaaPx2
namespace Go.Proofs.Yteljaikpechbmaa.Math
open Go.RowKit Go.Proofs.Yteljaikpechbmaa Go.Proofs.Yteljaikpechbmaa.P Go.Proofs.YteljaikpechbmaaW.PrintWords Go.Proofs.YteljaikpechbmaaW.PrintLast Go.Proofs.YteljaikpechbmaaW.PrintMore
set_option linter.unusedVariables false
set_option linter.unusedSimpArgs false

theorem wrap_id (x : Int) (h : -9223372036854775808 ≤ x) (h2 : x ≤ 9223372036854775807) : wrap64 x = x := by unfold wrap64; omega
theorem same_loop (a : List Int) (h : a.length < 9223372036854775807) : ∀ d i : Nat, i + d = a.length → Ev (fun k => lacquerref05_Ints.l0 k a a (i : Int)) true
  | 0, i, e => by
    refine Ev.step (fun k => lacquerref05_Ints.l0.eq_2 _ _ _ _) ?_
    simp only [show ¬ ((i : Int) < (a.length : Int)) by omega, if_false]
    exact Ev.now _
  | d + 1, i, e => by
    refine Ev.step (fun k => lacquerref05_Ints.l0.eq_2 _ _ _ _) ?_
    simp only [show ((i : Int) < (a.length : Int)) by omega, show (0 : Int) ≤ (i : Int) by omega, if_true, wrap_id ((i : Int) + 1) (by omega) (by omega)]
    exact same_loop a h d (i + 1) (by omega)
theorem same_ev (a : List Int) (h : a.length < 9223372036854775807) : Ev (fun k => lacquerlaw17_same.f k a a) true := by
  unfold lacquerlaw17_same.f
  refine Ev.bind (a := true) ?_ (Ev.now _)
  unfold lacquerref05_Ints.f
  simp only [if_true]
  exact same_loop a h a.length 0 (by omega)
theorem back_fwd : ∀ (m : List Int) (st : List Hand.Step), Hand.In32 m → Hand.outs Hand.inv st (Hand.outs Hand.fwd st m) = m
  | [], st, _ => rfl
  | x :: m, st, h => by
    rw [Hand.outs, Hand.outs, Hand.inv_fwd st x (h x (List.mem_cons_self ..)), back_fwd m _ (fun y hy => h y (List.mem_cons_of_mem _ hy))]
theorem back_inv : ∀ (m : List Int) (st : List Hand.Step), Hand.In32 m → Hand.outs Hand.fwd st (Hand.outs Hand.inv st m) = m
  | [], st, _ => rfl
  | x :: m, st, h => by
    rw [Hand.outs, Hand.outs, Hand.fwd_inv st x (h x (List.mem_cons_self ..)), back_inv m _ (fun y hy => h y (List.mem_cons_of_mem _ hy))]
theorem outs_in (op : List Hand.Step → Int → List Hand.Step × Int) (ho : ∀ st x, (-2147483648 ≤ x ∧ x ≤ 2147483647) → -2147483648 ≤ (op st x).2 ∧ (op st x).2 ≤ 2147483647) : ∀ (m : List Int) (st : List Hand.Step), Hand.In32 m → Hand.In32 (Hand.outs op st m)
  | [], st, _ => fun y hy => by cases hy
  | x :: m, st, h => by
    intro y hy
    rw [Hand.outs] at hy
    rcases List.mem_cons.1 hy with rfl | hy
    · exact ho st x (h x (List.mem_cons_self ..))
    · exact outs_in op ho m _ (fun z hz => h z (List.mem_cons_of_mem _ hz)) y hy
theorem all_ok (op : List Hand.Step → Int → List Hand.Step × Int) (k : Int) (l : List Int) (hk : 0 ≤ k ∧ k ≤ 2) (h : Hand.In32 l) : Hand.allF op k l = (Hand.outs op (Hand.start k) l, 0) := by
  unfold Hand.allF
  rw [if_pos hk, if_pos h]
/-- Numbers within 32 bits, so many of them. -/
def cut32 (l : List Int) (n : Nat) : List Int := (List.range n).map fun i => wrap32 (rd l (i : Nat))
theorem cut32_in (l : List Int) (n : Nat) : Hand.In32 (cut32 l n) := by
  intro x hx
  obtain ⟨i, _, rfl⟩ := List.mem_map.1 hx
  exact Hand.wrap32_in _
theorem cut32_length (l : List Int) (n : Nat) : (cut32 l n).length = n := by simp [cut32]
theorem cut32_snoc (l : List Int) (n : Nat) : cut32 l (n + 1) = cut32 l n ++ [wrap64 (wrap32 (rd l (n : Nat)))] := by
  have := Hand.wrap32_in (rd l (n : Nat))
  rw [wrap_id _ (by omega) (by omega)]
  simp [cut32, List.range_succ]
theorem back_end (lv : Int) (hl : 0 ≤ lv ∧ lv ≤ 2) (l : List Int) (n : Nat) (hn : n ≤ 500) :
    Ev (fun k => lacquerlaw17_FilterBack.j1 k lv (cut32 l n)) true := by
  refine Ev.step (fun k => lacquerlaw17_FilterBack.j1.eq_2 _ _ _) ?_
  have hin := cut32_in l n
  have hlen := cut32_length l n
  generalize cut32 l n = m at hin hlen
  have h1 : filter_Forward.f lv m = some (Hand.outs Hand.fwd (Hand.start lv) m, 0) := by unfold filter_Forward.f; rw [if_pos (by omega), all_ok _ _ _ hl hin]
  have h2 : filter_Inverse.f lv (Hand.outs Hand.fwd (Hand.start lv) m) = some (m, 0) := by
    unfold filter_Inverse.f
    rw [if_pos (by rw [Hand.outs_length]; omega), all_ok _ _ _ hl (outs_in Hand.fwd Hand.fwd_in m _ hin), back_fwd m _ hin]
  have h3 : filter_Inverse.f lv m = some (Hand.outs Hand.inv (Hand.start lv) m, 0) := by unfold filter_Inverse.f; rw [if_pos (by omega), all_ok _ _ _ hl hin]
  have h4 : filter_Forward.f lv (Hand.outs Hand.inv (Hand.start lv) m) = some (m, 0) := by
    unfold filter_Forward.f
    rw [if_pos (by rw [Hand.outs_length]; omega), all_ok _ _ _ hl (outs_in Hand.inv Hand.inv_in m _ hin), back_inv m _ hin]
  simp only [h1, h2, h3, h4, Option.bind_some, if_true]
  refine Ev.bind (a := true) (same_ev m (by omega)) ?_
  simp only [if_true]
  refine Ev.bind (a := true) (same_ev m (by omega)) ?_
  simp only [if_true, lacquerlaw17_awake.f, Option.bind_some]
  exact Ev.now _
theorem back_loop (lv : Int) (hl : 0 ≤ lv ∧ lv ≤ 2) (l : List Int) (hb : l.length * 8 ≤ 140737488351232) : ∀ d i : Nat, i + d = min l.length 500 → Ev (fun k => lacquerlaw17_FilterBack.l0 k lv l (cut32 l i) (i : Int)) true
  | 0, i, e => by
    refine Ev.step (fun k => lacquerlaw17_FilterBack.l0.eq_2 _ _ _ _ _) ?_
    have he := back_end lv hl l i (by omega)
    by_cases h1 : (i : Int) < (l.length : Int)
    · simp only [h1, show ¬ (i : Int) < 500 by omega, if_true, if_false]
      exact he
    · simp only [h1, if_false]
      exact he
  | d + 1, i, e => by
    refine Ev.step (fun k => lacquerlaw17_FilterBack.l0.eq_2 _ _ _ _ _) ?_
    simp only [show (i : Int) < (l.length : Int) by omega, show (i : Int) < 500 by omega, show (0 : Int) ≤ (i : Int) by omega, show (cut32 l i).length < 17592186044416 by rw [cut32_length]; omega, if_true, wrap_id ((i : Int) + 1) (by omega) (by omega)]
    rw [← cut32_snoc]
    exact back_loop lv hl l hb d (i + 1) (by omega)
theorem FilterBack_ev (a0 : Int) (l : List Int) (hb : l.length * 8 ≤ 140737488351232) : Ev (fun k => lacquerlaw17_FilterBack.f k a0 l) true := by
  unfold lacquerlaw17_FilterBack.f
  exact back_loop (mx 0 (mn a0 2)) (by unfold mx mn; constructor <;> (repeat' split) <;> omega) l hb (min l.length 500) 0 (by omega)
end Go.Proofs.Yteljaikpechbmaa.Math
