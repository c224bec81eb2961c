/- Contracts of layer 3, proved by hand: New, the lowest bit first. -/
import Derived.Test.YtmpkomhcihgphaaHandE
namespace Go.Proofs.Ytmpkomhcihgphaa.Hand
open Go.RowKit Go.Proofs.YtmpkomhcihgphaaW.PrintWords Go.Proofs.YtmpkomhcihgphaaW.PrintLast Go.Proofs.YtmpkomhcihgphaaW.PrintMore
set_option linter.unusedVariables false
set_option linter.unusedSimpArgs false
attribute [-go_sem] Instr.build
attribute [local go_sem] build_sum

theorem sum_list (b p : Int) (low : Bool) (f : Nat → Int) (n : Int) : (sumCells b p low f n).toList = .int .i64 b :: .int .i64 p :: .bool low :: ((List.range 256).map (fun j => Value.int .u32 (f j)) ++ [.int .u32 n]) := rfl
theorem sum_n (b p : Int) (low : Bool) (f : Nat → Int) (n : Int) : (sumCells b p low f n)[259]? = some (.int .u32 n) := by
  rw [← Array.getElem?_toList, sum_list, show (259 : Nat) = 256 + 1 + 1 + 1 from rfl, List.getElem?_cons_succ, List.getElem?_cons_succ, List.getElem?_cons_succ, List.getElem?_append_right (by simp)]
  simp
theorem sum_at (b p : Int) (low : Bool) (f : Nat → Int) (n : Int) (j : Nat) (hj : j < 256) : (sumCells b p low f n)[3 + j]? = some (.int .u32 (f j)) := by
  rw [← Array.getElem?_toList, sum_list, show 3 + j = j + 1 + 1 + 1 by omega, List.getElem?_cons_succ, List.getElem?_cons_succ, List.getElem?_cons_succ, List.getElem?_append_left (by simpa using hj)]
  simp [hj]
theorem sum_set (b p : Int) (low : Bool) (f : Nat → Int) (n m : Int) : (sumCells b p low f n).setIfInBounds 259 (.int .u32 m) = sumCells b p low f m := by
  apply Array.toList_inj.1
  rw [Array.toList_setIfInBounds, sum_list, sum_list, show (259 : Nat) = 256 + 1 + 1 + 1 from rfl, List.set_cons_succ, List.set_cons_succ, List.set_cons_succ, List.set_append_right _ _ (by simp)]
  simp
set_option maxHeartbeats 4000000 in
set_option maxRecDepth 100000 in
theorem New_low (k b p : Int) (i : Nat) (hf : Instr.findNow (.int .i64) (.int .i64 k) sEnts.toList 0 = some (some (i, .agg #[.int .i64 b, .int .i64 p, .bool true]))) (w : World) :
    Calls Try.prog 17 #[.int .i64 k] w fun e w' => ∃ g, e = .returned (.pointer (some ⟨g, 0, none⟩)) ∧ w.heap.size ≤ g ∧ SumAt w' g b p true 4294967295 ∧ Below w.heap.size w w' := by
  go_enter Try.func17, Try.ntmps17
  go_wp2_with fail
  refine (specs_any _).mono ?_
  rintro e w1 ⟨r, rfl, hm, hr, hB⟩
  have hl := look_hit (P := Try.prog) k _ Try.underlying44 Try.underlying3 hm hf
  have HB := Aside0.mk hB
  clear hm hB
  have hz := zero_spec
  have HK : Aside0 (∀ W : World, Below (w1.heap.size + 1) (w1.alloc (Obj.cells #[.int .i64 b, .int .i64 p, .bool true] 42)) W → W.cell? ⟨w1.heap.size, 0, none⟩ = some (.int .i64 b) ∧ W.cell? ⟨w1.heap.size, 1, none⟩ = some (.int .i64 p) ∧ W.cell? ⟨w1.heap.size, 2, none⟩ = some (.bool true)) := ⟨fun W hW => by
    have h := (hW.block w1.heap.size (Nat.lt_succ_self _)).trans (blk_new w1 (Obj.cells #[.int .i64 b, .int .i64 p, .bool true] 42))
    exact ⟨blk_cell h 0, blk_cell h 1, blk_cell h 2⟩⟩
  have hi : Below (w1.heap.size + 1) (w1.alloc (Obj.cells #[.int .i64 b, .int .i64 p, .bool true] 42)) (w1.alloc (Obj.cells #[.int .i64 b, .int .i64 p, .bool true] 42)).drew := below_drew (Below.refl _ _)
  obtain ⟨c0, c1, c2⟩ := HK.out _ hi
  clear hi
  go_wp2
  go_region_law (first | (go_simp; go_at_call 26; refine (table_low b p _).mono ?_; rintro e w3 ⟨rfl, hB3⟩; obtain ⟨d0, d1, d2⟩ := HK.out w3 ((below_drew (Below.refl _ _)).trans (by simpa using hB3))))
  all_goals
    have hB4 : Below (w1.heap.size + 1) (w1.alloc (Obj.cells #[.int .i64 b, .int .i64 p, .bool true] 42)) w3 := (below_drew (Below.refl _ _)).trans (by simpa using hB3)
    obtain ⟨g0, g1, g2⟩ := HK.out (w3.alloc (Obj.cells (sumCells b p true (tabL p) 0) 50)) (hB4.alloc (by have := hB4.size; simpa using this) _)
    have HB4 := Aside0.mk hB4
    have n0 : (w3.alloc (Obj.cells (sumCells b p true (tabL p) 0) 50)).cell? ⟨w3.heap.size, 259, none⟩ = some (.int .u32 0) := (blk_cell (blk_new w3 _) 259).trans (sum_n b p true _ 0)
    have n1 : (w3.alloc (Obj.cells (sumCells b p true (tabL p) 0) 50)).frozen? ⟨w3.heap.size, 259, none⟩ = false := blk_frozen (blk_new w3 _) 259
    clear hB3 hB4
    go_wp2
    go_ret
    have hB5 : Below w.heap.size w w3 := (below_alloc HB.out _).trans (HB4.out.mono (Nat.le_trans HB.out.size (Nat.le_succ _)))
    rw [sum_set]
    exact ⟨_, rfl, hB5.size, blk_new w3 _, below_alloc hB5 _⟩
end Go.Proofs.Ytmpkomhcihgphaa.Hand
