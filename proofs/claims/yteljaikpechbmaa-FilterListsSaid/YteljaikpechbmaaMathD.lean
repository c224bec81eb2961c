/- Plain words of layer 17: FilterLists. -/
import Derived.Test.YteljaikpechbmaaRx3
namespace Go.Proofs.Yteljaikpechbmaa.Math2
open Go.RowKit Go.Proofs.Yteljaikpechbmaa.R Go.Proofs.YteljaikpechbmaaW.PrintWords Go.Proofs.YteljaikpechbmaaW.PrintLast Go.Proofs.YteljaikpechbmaaW.PrintMore
open Go.Proofs.Yteljaikpechbmaa.Hand (wrap_id tab tab_length tab_snoc tab_get eq_tab mS mM uA uB rd_nat set_get allF outs_length)
set_option linter.unusedVariables false
set_option linter.unusedSimpArgs false

theorem mid_loop (a b : List Int) (n : Nat) (ha : n ≤ a.length) (hb : n ≤ b.length) (hn : n < 4611686018427387904) : ∀ (d i : Nat) (x7 x8 : List Int), i + d = n → x7.length = n → x8.length = n →
    (∀ j, j < i → x7.getD j 0 = mM a b j) → (∀ j, j < i → x8.getD j 0 = mS a b j) → Ev (fun k => filter_Mid.l0 k a b x7 x8 (n : Int) (i : Int)) (tab n (mM a b), tab n (mS a b))
  | 0, i, x7, x8, e, h7, h8, g7, g8 => by
    refine Ev.step (fun k => filter_Mid.l0.eq_2 _ _ _ _ _ _ _) ?_
    simp only [show ¬ ((i : Int) < (n : Int)) by omega, if_false]
    rw [eq_tab x7 n (mM a b) h7 (fun j hj => g7 j (by omega)), eq_tab x8 n (mS a b) h8 (fun j hj => g8 j (by omega))]
    exact Ev.now _
  | d + 1, i, x7, x8, e, h7, h8, g7, g8 => by
    refine Ev.step (fun k => filter_Mid.l0.eq_2 _ _ _ _ _ _ _) ?_
    have e1 : wrap64 ((i : Int) + 1) = ((i + 1 : Nat) : Int) := by rw [wrap_id _ (by omega) (by omega)]; omega
    simp only [show ((i : Int) < (n : Int)) by omega, show (0 : Int) ≤ (i : Int) by omega, show ((i : Int) < (a.length : Int)) by omega, show ((i : Int) < (b.length : Int)) by omega, show ((i : Int) < (x8.length : Int)) by omega, show ((i : Int) < (x7.length : Int)) by omega, if_true, Option.bind_some, e1, Int.toNat_natCast]
    have e2 : rd (x8.set i (wrap64 (rd a (i : Int) - rd b (i : Int)))) (i : Int) = mS a b i := by rw [rd_nat, set_get _ _ _ _ (by omega), if_pos rfl]; rfl
    rw [e2]
    refine mid_loop a b n ha hb hn d (i + 1) _ _ (by omega) (by rw [List.length_set]; exact h7) (by rw [List.length_set]; exact h8) ?_ ?_
    · intro j hj
      rw [set_get _ _ _ _ (by omega)]
      split
      · subst_vars; rfl
      · exact g7 j (by omega)
    · intro j hj
      rw [set_get _ _ _ _ (by omega)]
      split
      · subst_vars; rfl
      · exact g8 j (by omega)
theorem mn_nat (a b : Nat) : mn (a : Int) (b : Int) = ((min a b : Nat) : Int) := by
  unfold mn
  split <;> omega
theorem mid_ev (a b : List Int) (ha : a.length * 8 ≤ 140737488351232) (hb : b.length * 8 ≤ 140737488351232) : Ev (fun k => filter_Mid.f k a b) (tab (min a.length b.length) (mM a b), tab (min a.length b.length) (mS a b)) := by
  unfold filter_Mid.f
  rw [mn_nat]
  obtain ⟨n, hn⟩ : ∃ n, min a.length b.length = n := ⟨_, rfl⟩
  rw [hn]
  simp only [show (0 : Int) ≤ (n : Int) by omega, if_true, Int.toNat_natCast, show n ≤ 35184372088832 by omega]
  exact mid_loop a b n (by omega) (by omega) (by omega) n 0 _ _ (by omega) (by simp) (by simp) (fun j hj => by omega) (fun j hj => by omega)
theorem unmid_loop (a b : List Int) (n : Nat) (ha : n ≤ a.length) (hb : n ≤ b.length) (hn : n < 4611686018427387904) : ∀ (d i : Nat) (x7 x8 : List Int), i + d = n → x7.length = n → x8.length = n →
    (∀ j, j < i → x7.getD j 0 = uA a b j) → (∀ j, j < i → x8.getD j 0 = uB a b j) → Ev (fun k => filter_Unmid.l0 k a b x7 x8 (n : Int) (i : Int)) (tab n (uA a b), tab n (uB a b))
  | 0, i, x7, x8, e, h7, h8, g7, g8 => by
    refine Ev.step (fun k => filter_Unmid.l0.eq_2 _ _ _ _ _ _ _) ?_
    simp only [show ¬ ((i : Int) < (n : Int)) by omega, if_false]
    rw [eq_tab x7 n (uA a b) h7 (fun j hj => g7 j (by omega)), eq_tab x8 n (uB a b) h8 (fun j hj => g8 j (by omega))]
    exact Ev.now _
  | d + 1, i, x7, x8, e, h7, h8, g7, g8 => by
    refine Ev.step (fun k => filter_Unmid.l0.eq_2 _ _ _ _ _ _ _) ?_
    have e1 : wrap64 ((i : Int) + 1) = ((i + 1 : Nat) : Int) := by rw [wrap_id _ (by omega) (by omega)]; omega
    simp only [show ((i : Int) < (n : Int)) by omega, show (0 : Int) ≤ (i : Int) by omega, show ((i : Int) < (a.length : Int)) by omega, show ((i : Int) < (b.length : Int)) by omega, show ((i : Int) < (x8.length : Int)) by omega, show ((i : Int) < (x7.length : Int)) by omega, if_true, Option.bind_some, e1, Int.toNat_natCast]
    have e2 : rd (x8.set i (wrap64 (rd a (i : Int) - rd b (i : Int) / 2))) (i : Int) = uB a b i := by rw [rd_nat, set_get _ _ _ _ (by omega), if_pos rfl]; rfl
    rw [e2]
    refine unmid_loop a b n ha hb hn d (i + 1) _ _ (by omega) (by rw [List.length_set]; exact h7) (by rw [List.length_set]; exact h8) ?_ ?_
    · intro j hj
      rw [set_get _ _ _ _ (by omega)]
      split
      · subst_vars; rfl
      · exact g7 j (by omega)
    · intro j hj
      rw [set_get _ _ _ _ (by omega)]
      split
      · subst_vars; rfl
      · exact g8 j (by omega)
theorem unmid_ev (a b : List Int) (ha : a.length * 8 ≤ 140737488351232) (hb : b.length * 8 ≤ 140737488351232) : Ev (fun k => filter_Unmid.f k a b) (tab (min a.length b.length) (uA a b), tab (min a.length b.length) (uB a b)) := by
  unfold filter_Unmid.f
  rw [mn_nat]
  obtain ⟨n, hn⟩ : ∃ n, min a.length b.length = n := ⟨_, rfl⟩
  rw [hn]
  simp only [show (0 : Int) ≤ (n : Int) by omega, if_true, Int.toNat_natCast, show n ≤ 35184372088832 by omega]
  exact unmid_loop a b n (by omega) (by omega) (by omega) n 0 _ _ (by omega) (by simp) (by simp) (fun j hj => by omega) (fun j hj => by omega)
theorem refmid_loop (a b : List Int) (n : Nat) (hm : n = min a.length b.length) (hn : n < 17592186044416) : ∀ (d i : Nat), i + d = n → Ev (fun k => lacquerref17_Mid.l0 k a b (tab i (mM a b)) (tab i (mS a b)) (i : Int)) (tab n (mM a b), tab n (mS a b))
  | 0, i, e => by
    refine Ev.step (fun k => lacquerref17_Mid.l0.eq_2 _ _ _ _ _ _) ?_
    obtain rfl : i = n := by omega
    by_cases h : (i : Int) < (a.length : Int)
    · simp only [h, if_true, show ¬ ((i : Int) < (b.length : Int)) by omega, if_false]
      exact Ev.now _
    · simp only [h, if_false]
      exact Ev.now _
  | d + 1, i, e => by
    refine Ev.step (fun k => lacquerref17_Mid.l0.eq_2 _ _ _ _ _ _) ?_
    have e1 : wrap64 ((i : Int) + 1) = ((i + 1 : Nat) : Int) := by rw [wrap_id _ (by omega) (by omega)]; omega
    simp only [show ((i : Int) < (a.length : Int)) by omega, show ((i : Int) < (b.length : Int)) by omega, show (0 : Int) ≤ (i : Int) by omega, tab_length, show i < 17592186044416 by omega, if_true, e1]
    have ih := refmid_loop a b n hm hn d (i + 1) (by omega)
    rw [tab_snoc, tab_snoc] at ih
    exact ih
theorem refmid_ev (a b : List Int) (ha : a.length * 8 ≤ 140737488351232) : Ev (fun k => lacquerref17_Mid.f k a b) (tab (min a.length b.length) (mM a b), tab (min a.length b.length) (mS a b)) := by
  unfold lacquerref17_Mid.f
  exact refmid_loop a b (min a.length b.length) rfl (by omega) (min a.length b.length) 0 (by omega)
theorem refunmid_loop (a b : List Int) (n : Nat) (hm : n = min a.length b.length) (hn : n < 17592186044416) : ∀ (d i : Nat), i + d = n → Ev (fun k => lacquerref17_Unmid.l0 k a b (tab i (uA a b)) (tab i (uB a b)) (i : Int)) (tab n (uA a b), tab n (uB a b))
  | 0, i, e => by
    refine Ev.step (fun k => lacquerref17_Unmid.l0.eq_2 _ _ _ _ _ _) ?_
    obtain rfl : i = n := by omega
    by_cases h : (i : Int) < (a.length : Int)
    · simp only [h, if_true, show ¬ ((i : Int) < (b.length : Int)) by omega, if_false]
      exact Ev.now _
    · simp only [h, if_false]
      exact Ev.now _
  | d + 1, i, e => by
    refine Ev.step (fun k => lacquerref17_Unmid.l0.eq_2 _ _ _ _ _ _) ?_
    have e1 : wrap64 ((i : Int) + 1) = ((i + 1 : Nat) : Int) := by rw [wrap_id _ (by omega) (by omega)]; omega
    simp only [show ((i : Int) < (a.length : Int)) by omega, show ((i : Int) < (b.length : Int)) by omega, show (0 : Int) ≤ (i : Int) by omega, tab_length, show i < 17592186044416 by omega, if_true, e1]
    have ih := refunmid_loop a b n hm hn d (i + 1) (by omega)
    rw [tab_snoc, tab_snoc] at ih
    exact ih
theorem refunmid_ev (a b : List Int) (ha : a.length * 8 ≤ 140737488351232) : Ev (fun k => lacquerref17_Unmid.f k a b) (tab (min a.length b.length) (uA a b), tab (min a.length b.length) (uB a b)) := by
  unfold lacquerref17_Unmid.f
  exact refunmid_loop a b (min a.length b.length) rfl (by omega) (min a.length b.length) 0 (by omega)
theorem same_loop (a : List Int) (h : a.length < 9223372036854775807) : ∀ d i : Nat, i + d = a.length → Ev (fun k => lacquerref05_Ints.l0 k a a (i : Int)) true
  | 0, i, e => by
    refine Ev.step (fun k => lacquerref05_Ints.l0.eq_2 _ _ _ _) ?_
    simp only [show ¬ ((i : Int) < (a.length : Int)) by omega, if_false]
    exact Ev.now _
  | d + 1, i, e => by
    refine Ev.step (fun k => lacquerref05_Ints.l0.eq_2 _ _ _ _) ?_
    simp only [show ((i : Int) < (a.length : Int)) by omega, show (0 : Int) ≤ (i : Int) by omega, if_true, wrap_id ((i : Int) + 1) (by omega) (by omega)]
    exact same_loop a h d (i + 1) (by omega)
theorem same_ev (a : List Int) (h : a.length < 9223372036854775807) : Ev (fun k => lacquerlaw17_same.f k a a) true := by
  unfold lacquerlaw17_same.f
  refine Ev.bind (a := true) ?_ (Ev.now _)
  unfold lacquerref05_Ints.f
  simp only [if_true]
  exact same_loop a h a.length 0 (by omega)
theorem allF_length (op : List Hand.Step → Int → List Hand.Step × Int) (k : Int) (l : List Int) : (allF op k l).1.length ≤ l.length := by
  unfold allF
  split
  · split
    · rw [outs_length]; exact Nat.le_refl _
    · simp
  · simp
theorem FilterLists_ev (a0 : Int) (l1 l2 : List Int) (h1 : l1.length * 8 ≤ 140737488351232) (h2 : l2.length * 8 ≤ 140737488351232) : Ev (fun k => lacquerlaw17_FilterLists.f k a0 l1 l2) true := by
  unfold lacquerlaw17_FilterLists.f filter_Forward.f filter_Inverse.f lacquerref17_Forward.f lacquerref17_Inverse.f
  have hb : l1.length * 8 ≤ 140737488355320 := by omega
  simp only [hb, if_true, Option.bind_some]
  have n1 := allF_length Hand.fwd a0 l1
  have n2 := allF_length Hand.inv a0 l1
  have hm := Nat.min_le_left l1.length l2.length
  refine Ev.bind (mid_ev l1 l2 h1 h2) ?_
  refine Ev.bind (refmid_ev l1 l2 h1) ?_
  refine Ev.bind (unmid_ev l1 l2 h1 h2) ?_
  refine Ev.bind (refunmid_ev l1 l2 h1) ?_
  refine Ev.bind (same_ev _ (by omega)) ?_
  simp only [if_true]
  refine Ev.bind (same_ev _ (by omega)) ?_
  simp only [if_true]
  refine Ev.bind (same_ev _ (by rw [tab_length]; omega)) ?_
  simp only [if_true]
  refine Ev.bind (same_ev _ (by rw [tab_length]; omega)) ?_
  simp only [if_true]
  refine Ev.bind (same_ev _ (by rw [tab_length]; omega)) ?_
  simp only [if_true]
  refine Ev.bind (same_ev _ (by rw [tab_length]; omega)) ?_
  simp only [if_true]
  exact Ev.now _
end Go.Proofs.Yteljaikpechbmaa.Math2
