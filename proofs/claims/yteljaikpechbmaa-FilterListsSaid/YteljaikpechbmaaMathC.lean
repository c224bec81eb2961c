/- Plain words of layer 17: middle and side, there and back. -/
import Derived.Test.YteljaikpechbmaaHandM
import Derived.Test.YteljaikpechbmaaQx2
import Derived.Test.YteljaikpechbmaaQx3
namespace Go.Proofs.Yteljaikpechbmaa.Hand
open Go.RowKit Go.Proofs.Yteljaikpechbmaa.Q Go.Proofs.YteljaikpechbmaaW.PrintWords Go.Proofs.YteljaikpechbmaaW.PrintLast Go.Proofs.YteljaikpechbmaaW.PrintMore
set_option linter.unusedVariables false
set_option linter.unusedSimpArgs false

def tab (n : Nat) (f : Nat → Int) : List Int := (List.range n).map f
theorem tab_length (n : Nat) (f : Nat → Int) : (tab n f).length = n := by simp [tab]
theorem tab_snoc (n : Nat) (f : Nat → Int) : tab (n + 1) f = tab n f ++ [f n] := by simp [tab, List.range_succ]
theorem tab_get (n : Nat) (f : Nat → Int) (j : Nat) (h : j < n) : (tab n f).getD j 0 = f j := by simp [tab, List.getD_eq_getElem?_getD, h]
theorem eq_tab (x : List Int) (n : Nat) (f : Nat → Int) (hl : x.length = n) (h : ∀ j, j < n → x.getD j 0 = f j) : x = tab n f := by
  apply List.ext_getElem?
  intro j
  by_cases hj : j < n
  · have := h j hj
    rw [List.getD_eq_getElem?_getD, List.getElem?_eq_getElem (by omega)] at this
    rw [List.getElem?_eq_getElem (by omega)]
    simp [tab, hj]
    simpa using this
  · rw [List.getElem?_eq_none (by omega), List.getElem?_eq_none (by rw [tab_length]; omega)]
def mS (a b : List Int) (j : Nat) : Int := wrap64 (rd a (j : Nat) - rd b (j : Nat))
def mM (a b : List Int) (j : Nat) : Int := wrap64 (rd b (j : Nat) + mS a b j / 2)
def uB (m s : List Int) (j : Nat) : Int := wrap64 (rd m (j : Nat) - rd s (j : Nat) / 2)
def uA (m s : List Int) (j : Nat) : Int := wrap64 (uB m s j + rd s (j : Nat))
theorem rd_nat (l : List Int) (j : Nat) : rd l (j : Int) = l.getD j 0 := by unfold rd; rw [Int.toNat_natCast]
theorem set_get (x : List Int) (i j : Nat) (v : Int) (hi : i < x.length) : (x.set i v).getD j 0 = if j = i then v else x.getD j 0 := by
  rw [List.getD_eq_getElem?_getD, List.getD_eq_getElem?_getD]
  by_cases h : j = i
  · subst h
    rw [List.getElem?_set_self hi, if_pos rfl]
    rfl
  · rw [List.getElem?_set_ne (by omega), if_neg h]
theorem mid_loop (a b : List Int) (n : Nat) (ha : n ≤ a.length) (hb : n ≤ b.length) (hn : n < 4611686018427387904) : ∀ (d i : Nat) (x7 x8 : List Int), i + d = n → x7.length = n → x8.length = n →
    (∀ j, j < i → x7.getD j 0 = mM a b j) → (∀ j, j < i → x8.getD j 0 = mS a b j) → Ev (fun k => filter_Mid.l0 k a b x7 x8 (n : Int) (i : Int)) (tab n (mM a b), tab n (mS a b))
  | 0, i, x7, x8, e, h7, h8, g7, g8 => by
    refine Ev.step (fun k => filter_Mid.l0.eq_2 _ _ _ _ _ _ _) ?_
    simp only [show ¬ ((i : Int) < (n : Int)) by omega, if_false]
    rw [eq_tab x7 n (mM a b) h7 (fun j hj => g7 j (by omega)), eq_tab x8 n (mS a b) h8 (fun j hj => g8 j (by omega))]
    exact Ev.now _
  | d + 1, i, x7, x8, e, h7, h8, g7, g8 => by
    refine Ev.step (fun k => filter_Mid.l0.eq_2 _ _ _ _ _ _ _) ?_
    have e1 : wrap64 ((i : Int) + 1) = ((i + 1 : Nat) : Int) := by rw [wrap_id _ (by omega) (by omega)]; omega
    simp only [show ((i : Int) < (n : Int)) by omega, show (0 : Int) ≤ (i : Int) by omega, show ((i : Int) < (a.length : Int)) by omega, show ((i : Int) < (b.length : Int)) by omega, show ((i : Int) < (x8.length : Int)) by omega, show ((i : Int) < (x7.length : Int)) by omega, if_true, Option.bind_some, e1, Int.toNat_natCast]
    have e2 : rd (x8.set i (wrap64 (rd a (i : Int) - rd b (i : Int)))) (i : Int) = mS a b i := by rw [rd_nat, set_get _ _ _ _ (by omega), if_pos rfl]; rfl
    rw [e2]
    refine mid_loop a b n ha hb hn d (i + 1) _ _ (by omega) (by rw [List.length_set]; exact h7) (by rw [List.length_set]; exact h8) ?_ ?_
    · intro j hj
      rw [set_get _ _ _ _ (by omega)]
      split
      · subst_vars; rfl
      · exact g7 j (by omega)
    · intro j hj
      rw [set_get _ _ _ _ (by omega)]
      split
      · subst_vars; rfl
      · exact g8 j (by omega)
theorem mn_nat (a b : Nat) : mn (a : Int) (b : Int) = ((min a b : Nat) : Int) := by
  unfold mn
  split <;> omega
theorem mid_ev (a b : List Int) (ha : a.length * 8 ≤ 140737488351232) (hb : b.length * 8 ≤ 140737488351232) : Ev (fun k => filter_Mid.f k a b) (tab (min a.length b.length) (mM a b), tab (min a.length b.length) (mS a b)) := by
  unfold filter_Mid.f
  rw [mn_nat]
  obtain ⟨n, hn⟩ : ∃ n, min a.length b.length = n := ⟨_, rfl⟩
  rw [hn]
  simp only [show (0 : Int) ≤ (n : Int) by omega, if_true, Int.toNat_natCast, show n ≤ 35184372088832 by omega]
  exact mid_loop a b n (by omega) (by omega) (by omega) n 0 _ _ (by omega) (by simp) (by simp) (fun j hj => by omega) (fun j hj => by omega)
theorem unmid_loop (a b : List Int) (n : Nat) (ha : n ≤ a.length) (hb : n ≤ b.length) (hn : n < 4611686018427387904) : ∀ (d i : Nat) (x7 x8 : List Int), i + d = n → x7.length = n → x8.length = n →
    (∀ j, j < i → x7.getD j 0 = uA a b j) → (∀ j, j < i → x8.getD j 0 = uB a b j) → Ev (fun k => filter_Unmid.l0 k a b x7 x8 (n : Int) (i : Int)) (tab n (uA a b), tab n (uB a b))
  | 0, i, x7, x8, e, h7, h8, g7, g8 => by
    refine Ev.step (fun k => filter_Unmid.l0.eq_2 _ _ _ _ _ _ _) ?_
    simp only [show ¬ ((i : Int) < (n : Int)) by omega, if_false]
    rw [eq_tab x7 n (uA a b) h7 (fun j hj => g7 j (by omega)), eq_tab x8 n (uB a b) h8 (fun j hj => g8 j (by omega))]
    exact Ev.now _
  | d + 1, i, x7, x8, e, h7, h8, g7, g8 => by
    refine Ev.step (fun k => filter_Unmid.l0.eq_2 _ _ _ _ _ _ _) ?_
    have e1 : wrap64 ((i : Int) + 1) = ((i + 1 : Nat) : Int) := by rw [wrap_id _ (by omega) (by omega)]; omega
    simp only [show ((i : Int) < (n : Int)) by omega, show (0 : Int) ≤ (i : Int) by omega, show ((i : Int) < (a.length : Int)) by omega, show ((i : Int) < (b.length : Int)) by omega, show ((i : Int) < (x8.length : Int)) by omega, show ((i : Int) < (x7.length : Int)) by omega, if_true, Option.bind_some, e1, Int.toNat_natCast]
    have e2 : rd (x8.set i (wrap64 (rd a (i : Int) - rd b (i : Int) / 2))) (i : Int) = uB a b i := by rw [rd_nat, set_get _ _ _ _ (by omega), if_pos rfl]; rfl
    rw [e2]
    refine unmid_loop a b n ha hb hn d (i + 1) _ _ (by omega) (by rw [List.length_set]; exact h7) (by rw [List.length_set]; exact h8) ?_ ?_
    · intro j hj
      rw [set_get _ _ _ _ (by omega)]
      split
      · subst_vars; rfl
      · exact g7 j (by omega)
    · intro j hj
      rw [set_get _ _ _ _ (by omega)]
      split
      · subst_vars; rfl
      · exact g8 j (by omega)
theorem unmid_ev (a b : List Int) (ha : a.length * 8 ≤ 140737488351232) (hb : b.length * 8 ≤ 140737488351232) : Ev (fun k => filter_Unmid.f k a b) (tab (min a.length b.length) (uA a b), tab (min a.length b.length) (uB a b)) := by
  unfold filter_Unmid.f
  rw [mn_nat]
  obtain ⟨n, hn⟩ : ∃ n, min a.length b.length = n := ⟨_, rfl⟩
  rw [hn]
  simp only [show (0 : Int) ≤ (n : Int) by omega, if_true, Int.toNat_natCast, show n ≤ 35184372088832 by omega]
  exact unmid_loop a b n (by omega) (by omega) (by omega) n 0 _ _ (by omega) (by simp) (by simp) (fun j hj => by omega) (fun j hj => by omega)
theorem refmid_loop (a b : List Int) (n : Nat) (hm : n = min a.length b.length) (hn : n < 17592186044416) : ∀ (d i : Nat), i + d = n → Ev (fun k => lacquerref17_Mid.l0 k a b (tab i (mM a b)) (tab i (mS a b)) (i : Int)) (tab n (mM a b), tab n (mS a b))
  | 0, i, e => by
    refine Ev.step (fun k => lacquerref17_Mid.l0.eq_2 _ _ _ _ _ _) ?_
    obtain rfl : i = n := by omega
    by_cases h : (i : Int) < (a.length : Int)
    · simp only [h, if_true, show ¬ ((i : Int) < (b.length : Int)) by omega, if_false]
      exact Ev.now _
    · simp only [h, if_false]
      exact Ev.now _
  | d + 1, i, e => by
    refine Ev.step (fun k => lacquerref17_Mid.l0.eq_2 _ _ _ _ _ _) ?_
    have e1 : wrap64 ((i : Int) + 1) = ((i + 1 : Nat) : Int) := by rw [wrap_id _ (by omega) (by omega)]; omega
    simp only [show ((i : Int) < (a.length : Int)) by omega, show ((i : Int) < (b.length : Int)) by omega, show (0 : Int) ≤ (i : Int) by omega, tab_length, show i < 17592186044416 by omega, if_true, e1]
    have ih := refmid_loop a b n hm hn d (i + 1) (by omega)
    rw [tab_snoc, tab_snoc] at ih
    exact ih
theorem refmid_ev (a b : List Int) (ha : a.length * 8 ≤ 140737488351232) : Ev (fun k => lacquerref17_Mid.f k a b) (tab (min a.length b.length) (mM a b), tab (min a.length b.length) (mS a b)) := by
  unfold lacquerref17_Mid.f
  exact refmid_loop a b (min a.length b.length) rfl (by omega) (min a.length b.length) 0 (by omega)
theorem refunmid_loop (a b : List Int) (n : Nat) (hm : n = min a.length b.length) (hn : n < 17592186044416) : ∀ (d i : Nat), i + d = n → Ev (fun k => lacquerref17_Unmid.l0 k a b (tab i (uA a b)) (tab i (uB a b)) (i : Int)) (tab n (uA a b), tab n (uB a b))
  | 0, i, e => by
    refine Ev.step (fun k => lacquerref17_Unmid.l0.eq_2 _ _ _ _ _ _) ?_
    obtain rfl : i = n := by omega
    by_cases h : (i : Int) < (a.length : Int)
    · simp only [h, if_true, show ¬ ((i : Int) < (b.length : Int)) by omega, if_false]
      exact Ev.now _
    · simp only [h, if_false]
      exact Ev.now _
  | d + 1, i, e => by
    refine Ev.step (fun k => lacquerref17_Unmid.l0.eq_2 _ _ _ _ _ _) ?_
    have e1 : wrap64 ((i : Int) + 1) = ((i + 1 : Nat) : Int) := by rw [wrap_id _ (by omega) (by omega)]; omega
    simp only [show ((i : Int) < (a.length : Int)) by omega, show ((i : Int) < (b.length : Int)) by omega, show (0 : Int) ≤ (i : Int) by omega, tab_length, show i < 17592186044416 by omega, if_true, e1]
    have ih := refunmid_loop a b n hm hn d (i + 1) (by omega)
    rw [tab_snoc, tab_snoc] at ih
    exact ih
theorem refunmid_ev (a b : List Int) (ha : a.length * 8 ≤ 140737488351232) : Ev (fun k => lacquerref17_Unmid.f k a b) (tab (min a.length b.length) (uA a b), tab (min a.length b.length) (uB a b)) := by
  unfold lacquerref17_Unmid.f
  exact refunmid_loop a b (min a.length b.length) rfl (by omega) (min a.length b.length) 0 (by omega)
/-- What was two channels comes back. -/
theorem mid_back (a b : List Int) (n : Nat) (hn : n = min a.length b.length) (hA : ∀ x ∈ a, -9223372036854775808 ≤ x ∧ x ≤ 9223372036854775807) (hB : ∀ x ∈ b, -9223372036854775808 ≤ x ∧ x ≤ 9223372036854775807) :
    tab n (uA (tab n (mM a b)) (tab n (mS a b))) = a.take n ∧ tab n (uB (tab n (mM a b)) (tab n (mS a b))) = b.take n := by
  have key : ∀ j, j < n → uB (tab n (mM a b)) (tab n (mS a b)) j = rd b (j : Nat) ∧ uA (tab n (mM a b)) (tab n (mS a b)) j = rd a (j : Nat) := by
    intro j hj
    have h1 : rd (tab n (mM a b)) (j : Int) = mM a b j := by rw [rd_nat, tab_get _ _ _ hj]
    have h2 : rd (tab n (mS a b)) (j : Int) = mS a b j := by rw [rd_nat, tab_get _ _ _ hj]
    have ha : -9223372036854775808 ≤ rd a (j : Int) ∧ rd a (j : Int) ≤ 9223372036854775807 := by
      rw [rd_nat, List.getD_eq_getElem?_getD, List.getElem?_eq_getElem (by omega)]
      exact hA _ (List.getElem_mem _)
    have hb : -9223372036854775808 ≤ rd b (j : Int) ∧ rd b (j : Int) ≤ 9223372036854775807 := by
      rw [rd_nat, List.getD_eq_getElem?_getD, List.getElem?_eq_getElem (by omega)]
      exact hB _ (List.getElem_mem _)
    have e1 : uB (tab n (mM a b)) (tab n (mS a b)) j = rd b (j : Nat) := by
      unfold uB
      rw [h1, h2]
      unfold mM
      generalize mS a b j = s
      unfold wrap64
      omega
    refine ⟨e1, ?_⟩
    unfold uA
    rw [e1, h2]
    unfold mS wrap64
    omega
  refine ⟨((eq_tab (a.take n) n _ (by rw [List.length_take]; omega) (fun j hj => ?_))).symm, ((eq_tab (b.take n) n _ (by rw [List.length_take]; omega) (fun j hj => ?_))).symm⟩
  · rw [(key j hj).2, rd_nat, List.getD_eq_getElem?_getD, List.getD_eq_getElem?_getD, List.getElem?_take, if_pos hj]
  · rw [(key j hj).1, rd_nat, List.getD_eq_getElem?_getD, List.getD_eq_getElem?_getD, List.getElem?_take, if_pos hj]
theorem same_loop (a : List Int) (h : a.length < 9223372036854775807) : ∀ d i : Nat, i + d = a.length → Ev (fun k => lacquerref05_Ints.l0 k a a (i : Int)) true
  | 0, i, e => by
    refine Ev.step (fun k => lacquerref05_Ints.l0.eq_2 _ _ _ _) ?_
    simp only [show ¬ ((i : Int) < (a.length : Int)) by omega, if_false]
    exact Ev.now _
  | d + 1, i, e => by
    refine Ev.step (fun k => lacquerref05_Ints.l0.eq_2 _ _ _ _) ?_
    simp only [show ((i : Int) < (a.length : Int)) by omega, show (0 : Int) ≤ (i : Int) by omega, if_true, wrap_id ((i : Int) + 1) (by omega) (by omega)]
    exact same_loop a h d (i + 1) (by omega)
theorem same_ev (a : List Int) (h : a.length < 9223372036854775807) : Ev (fun k => lacquerlaw17_same.f k a a) true := by
  unfold lacquerlaw17_same.f
  refine Ev.bind (a := true) ?_ (Ev.now _)
  unfold lacquerref05_Ints.f
  simp only [if_true]
  exact same_loop a h a.length 0 (by omega)
/-- Two lists alike. -/
theorem same_any (l : List Int) (A B : Option Addr) (c d : Nat) (w : World) (hA : Kd.C (Kd.int .i64) w A l.length l) (hc : l.length ≤ c) (hB : Kd.C (Kd.int .i64) w B l.length l) (hd : l.length ≤ d) (hl : l.length < 9223372036854775807) :
    Calls Try.prog 17 #[.slice A l.length c, .slice B l.length d] w fun e w' => e = .returned (.bool true) ∧ Drawn0 w w' := by
  obtain ⟨k, h⟩ := (same_ev l hl).rounds
  exact lacquerlaw17_same.calls k A c l B d l true w hA hc hB hd h
end Go.Proofs.Yteljaikpechbmaa.Hand
