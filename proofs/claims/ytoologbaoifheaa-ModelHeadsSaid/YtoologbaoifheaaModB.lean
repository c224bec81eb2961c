/- Contracts of layer 19, proved by hand: counts begun. -/
import Derived.Test.YtoologbaoifheaaModA
namespace Go.Proofs.Ytoologbaoifheaa.Hand
open Go.RowKit Go.Proofs.YtoologbaoifheaaW.PrintWords Go.Proofs.YtoologbaoifheaaW.PrintLast Go.Proofs.YtoologbaoifheaaW.PrintMore
set_option linter.unusedVariables false
set_option linter.unusedSimpArgs false

def ones : List Int := List.replicate 42 1
def onesTo (i : Nat) : List Int := List.replicate i 1 ++ List.replicate (42 - i) 0
theorem onesTo_set (i : Nat) (h : i < 42) : (onesTo i).set i 1 = onesTo (i + 1) := by
  unfold onesTo
  rw [List.set_append_right _ _ (by simp), List.length_replicate, Nat.sub_self]
  obtain ⟨m, hm⟩ : ∃ m, 42 - i = m + 1 := ⟨41 - i, by omega⟩
  rw [hm, List.replicate_succ, List.set_cons_zero, show 42 - (i + 1) = m by omega, List.replicate_succ', List.append_assoc]
  rfl
theorem begun_new (w : World) : CntAt (w.alloc (.cells (cntCells (onesTo 0) 42) 53)) w.heap.size (onesTo 0) 42 := ⟨blk_new w _, by decide⟩
set_option maxHeartbeats 4000000 in
set_option maxRecDepth 100000 in
theorem begun_any (w : World) :
    Calls Try.prog 19 #[] w fun e w' => e = .returned (.pointer (some ⟨w.heap.size, 0, none⟩)) ∧ CntAt w' w.heap.size ones 42 ∧ Below w.heap.size w w' := by
  have H0 := Aside0.mk (begun_new w)
  go_enter Try.func19, Try.ntmps19
  go_wp2
  change Code.wp _ _ _ _ (w.alloc (.cells (cntCells (onesTo 0) 42) 53))
  have HB0 : Aside0 (Below w.heap.size w (w.alloc (.cells (cntCells (onesTo 0) 42) 53))) := ⟨below_alloc (Below.refl _ _) _⟩
  generalize w.alloc (.cells (cntCells (onesTo 0) 42) 53) = w1 at H0 HB0 ⊢
  obtain ⟨g, hg⟩ : ∃ g, w.heap.size = g := ⟨_, rfl⟩
  have HG := Aside0.mk hg
  rw [hg] at H0 HB0 ⊢
  clear hg
  go_loopw [5] (fun iv wr => ∃ i : Nat, i ≤ 42 ∧ iv = .int .i64 i ∧ Aside0 (CntAt wr g (onesTo i) 42) ∧ Aside0 (Below g w wr)) (fun iv _ => 42 - (intOf iv).toNat)
  case atStart => exact ⟨0, by omega, rfl, H0, HB0⟩
  case round =>
    clear H0 HB0
    obtain ⟨i, hi, rfl, HC, HB⟩ := hrel
    by_cases hlt : i < 42
    · have i0 : (0 : Int) ≤ (i : Int) := by omega
      have i1 : (i : Int) < 42 := by omega
      have cI : wr.cell? ⟨g, i, none⟩ = some (.int .i64 ((onesTo i).getD i 0)) := HC.out.cell i hlt
      have fI := HC.out.frozen i
      have HC2 : Aside0 (CntAt (wr.setCell ⟨g, i, none⟩ (.int .i64 1)) g (onesTo (i + 1)) 42) := ⟨by rw [← onesTo_set i hlt]; exact HC.out.set i hlt 1⟩
      have HB2 : Aside0 (Below g w (wr.setCell ⟨g, i, none⟩ (.int .i64 1))) := ⟨HB.out.setCell (p := ⟨g, i, none⟩) (Nat.le_refl _) _⟩
      clear HC HB
      go_wp2
      go_roundw
      case rel => exact ⟨i + 1, by omega, by go_num, HC2, HB2⟩
      case measure => simp [intOf]; omega
    · have hi2 : i = 42 := by omega
      have n1 : ¬ (i : Int) < 42 := by omega
      rw [hi2] at HC
      clear hi2
      go_wp2
      go_ret
      exact ⟨by rw [HG.out]; rfl, by rw [HG.out]; exact HC.out, by rw [HG.out]; exact HB.out⟩
/-- A class was seen: halved, where the sum is great. -/
def halfTo (c : List Int) (i : Nat) : List Int := (c.take i).map (fun x => (x + 1) / 2) ++ c.drop i
def sawC (c : List Int) (s : Int) (x : Nat) : List Int × Int :=
  if s + 32 ≤ 32768 then (c.set x (c.getD x 0 + 32), s + 32) else ((c.set x (c.getD x 0 + 32)).map (fun x => (x + 1) / 2), belowC ((c.set x (c.getD x 0 + 32)).map (fun x => (x + 1) / 2)) 42)
theorem halfTo_length (c : List Int) (i : Nat) (h : c.length = 42) : (halfTo c i).length = 42 := by
  unfold halfTo
  rw [List.length_append, List.length_map, List.length_take, List.length_drop]
  omega
theorem halfTo_next (c : List Int) (i : Nat) (h : c.length = 42) (hi : i < 42) : (halfTo c i).set i ((c.getD i 0 + 1) / 2) = halfTo c (i + 1) := by
  unfold halfTo
  have hl : ((c.take i).map (fun x => (x + 1) / 2)).length = i := by rw [List.length_map, List.length_take]; omega
  rw [List.set_append_right _ _ (by omega), hl, Nat.sub_self, List.take_succ_eq_append_getElem (by omega), List.map_append, List.append_assoc]
  congr 1
  rw [List.drop_eq_getElem_cons (by omega : i < c.length), List.set_cons_zero, List.getD_eq_getElem?_getD, List.getElem?_eq_getElem (by omega)]
  rfl
theorem halfTo_low (c : List Int) (i j : Nat) (h : c.length = 42) (hi : i ≤ 42) (hj : j < i) : (halfTo c i).getD j 0 = (c.getD j 0 + 1) / 2 := by
  unfold halfTo
  have hl : ((c.take i).map (fun x => (x + 1) / 2)).length = i := by rw [List.length_map, List.length_take]; omega
  rw [List.getD_eq_getElem?_getD, List.getElem?_append_left (by omega), List.getElem?_map, List.getElem?_take, if_pos hj, List.getD_eq_getElem?_getD, List.getElem?_eq_getElem (by omega)]
  rfl
theorem belowC_congr (c d : List Int) : ∀ i, (∀ j, j < i → c.getD j 0 = d.getD j 0) → belowC c i = belowC d i
  | 0, _ => rfl
  | i + 1, h => by
    simp only [belowC]
    rw [belowC_congr c d i (fun j hj => h j (by omega)), h i (by omega)]
theorem halfTo_all (c : List Int) (h : c.length = 42) : halfTo c 42 = c.map (fun x => (x + 1) / 2) := by
  unfold halfTo
  rw [List.take_of_length_le (by omega), List.drop_of_length_le (by omega), List.append_nil]
theorem below_next (c : List Int) (i : Nat) (h : c.length = 42) (hi : i < 42) : belowC (halfTo c (i + 1)) (i + 1) = belowC (halfTo c i) i + (c.getD i 0 + 1) / 2 := by
  simp only [belowC]
  rw [halfTo_low c (i + 1) i h (by omega) (by omega), belowC_congr (halfTo c (i + 1)) (halfTo c i) i (fun j hj => by rw [halfTo_low c (i + 1) j h (by omega) (by omega), halfTo_low c i j h (by omega) hj])]
theorem Small.set {c : List Int} (h : Small c) (x : Nat) (y : Int) (h0 : 0 ≤ y) (h1 : y ≤ 65536) : Small (c.set x y) := by
  intro i
  rw [List.getD_eq_getElem?_getD]
  by_cases hx : x < c.length
  · by_cases e : x = i
    · subst e
      rw [List.getElem?_set_self hx]
      exact ⟨h0, h1⟩
    · rw [List.getElem?_set_ne e, ← List.getD_eq_getElem?_getD]
      exact h i
  · rw [List.set_eq_of_length_le (by omega), ← List.getD_eq_getElem?_getD]
    exact h i
end Go.Proofs.Ytoologbaoifheaa.Hand
