/- Contracts of layer 17, proved by hand: rows, a filter's numbers, signs, the first step. -/
import Derived.Test.YteljaikpechbmaaQx1
import Derived.WalkKit
import Derived.KernelRfl
import Derived.Below
import Derived.BigRegion
import Derived.IntWalk
import Derived.Deep.LoopGhost
import Derived.Deep.Draws
import Derived.Deep.QuietTactic
import Derived.BigQuiet
import Derived.Deep.RegionLaw
import Derived.Deep.RegionHeld3
import Derived.StillTailTactics
import Derived.Carry
import Derived.Deep.DeepCutAuto
namespace Go.Proofs.Yteljaikpechbmaa.Hand
open Go.RowKit Go.Proofs.Yteljaikpechbmaa.Q Go.Proofs.YteljaikpechbmaaW.PrintWords Go.Proofs.YteljaikpechbmaaW.PrintLast Go.Proofs.YteljaikpechbmaaW.PrintMore
set_option linter.unusedVariables false
set_option linter.unusedSimpArgs false

/-- A block that is a row of numbers. -/
def Row (w : World) (b : Nat) (k : IntKind) (T : Nat) (xs : List Int) : Prop := w.heap[b]? = some (.cells (xs.map (Value.int k)).toArray T (0, 0))
theorem Row.cell {w : World} {b T : Nat} {k : IntKind} {xs : List Int} (h : Row w b k T xs) (i : Nat) (hi : i < xs.length) : w.cell? ⟨b, i, none⟩ = some (.int k (xs.getD i 0)) := by
  rw [blk_cell h, List.getElem?_toArray, List.getElem?_map, List.getElem?_eq_getElem hi, List.getD_eq_getElem?_getD, List.getElem?_eq_getElem hi]
  rfl
theorem Row.free {w : World} {b T : Nat} {k : IntKind} {xs : List Int} (h : Row w b k T xs) (i : Nat) : w.frozen? ⟨b, i, none⟩ = false := blk_frozen h i
theorem Row.put {w : World} {b T : Nat} {k : IntKind} {xs : List Int} (h : Row w b k T xs) (i : Nat) (y : Int) : Row (w.setCell ⟨b, i, none⟩ (.int k y)) b k T (xs.set i y) := by
  refine blk_put h i _ ?_
  rw [List.setIfInBounds_toArray, List.map_set]
/-- The sign of a number. -/
def sgn (n : Int) : Int := if n < 0 then -1 else if 0 < n then 1 else 0
theorem sgn_in (n : Int) : sgn n = -1 ∨ sgn n = 0 ∨ sgn n = 1 := by
  unfold sgn
  split
  · exact .inl rfl
  · split
    · exact .inr (.inr rfl)
    · exact .inr (.inl rfl)
theorem or_one (x : Int) (h : x = 0 ∨ x = -1) : Go.bits .or .i64 1 x = (if x = 0 then 1 else -1) := by
  rcases h with rfl | rfl <;> decide
set_option maxHeartbeats 2000000 in
theorem sign_any (n : Int) (h0 : -9223372036854775808 ≤ n) (h1 : n ≤ 9223372036854775807) (w : World) : Calls Try.prog 53 #[.int .i64 n] w fun e w' => e = .returned (.int .i16 (sgn n)) ∧ w' = w := by
  by_cases hz : n = 0
  · subst hz
    go_enter Try.func53, Try.ntmps53
    go_wp2
    go_ret
    exact ⟨rfl, rfl⟩
  · have hb : (n == 0) = false := by simpa using hz
    by_cases hn : n < 0
    · have e1 : n / 9223372036854775808 = -1 := by omega
      have e2 : Go.bits .or .i64 1 (-1) = -1 := by decide
      have e3 : IntKind.i16.wrap (-1) = -1 := by decide
      have HS := Aside0.mk (show sgn n = -1 by unfold sgn; rw [if_pos hn])
      clear hz
      go_enter Try.func53, Try.ntmps53
      go_wp2
      go_ret
      rw [HS.out]
      exact ⟨rfl, rfl⟩
    · have e1 : n / 9223372036854775808 = 0 := by omega
      have e2 : Go.bits .or .i64 1 0 = 1 := by decide
      have e3 : IntKind.i16.wrap 1 = 1 := by decide
      have HS := Aside0.mk (show sgn n = 1 by unfold sgn; rw [if_neg hn, if_pos (by omega)])
      clear hz
      go_enter Try.func53, Try.ntmps53
      go_wp2
      go_ret
      rw [HS.out]
      exact ⟨rfl, rfl⟩
/-- The first step's block. -/
def LastAt (w : World) (g : Nat) (x : Int) : Prop := w.heap[g]? = some (.cells #[.int .i64 x] 47 (0, 0))
set_option maxHeartbeats 2000000 in
theorem lastF_any (g : Nat) (x : Int) (w : World) (h : LastAt w g x) (h0 : -2147483648 ≤ x) (h1 : x ≤ 2147483647) : Calls Try.prog 48 #[.pointer (some ⟨g, 0, none⟩)] w fun e w' => e = .returned (.int .i64 (x * 31 / 32)) ∧ Drawn0 w w' := by
  have c0 : w.cell? ⟨g, 0, none⟩ = some (.int .i64 x) := blk_cell h 0
  clear h
  go_enter Try.func48, Try.ntmps48
  go_wp2
  go_ret
  exact ⟨rfl, Drawn0.refl _⟩
set_option maxHeartbeats 2000000 in
theorem lastS_any (g : Nat) (x y l : Int) (w : World) (h : LastAt w g x) : Calls Try.prog 49 #[.pointer (some ⟨g, 0, none⟩), .int .i64 y, .int .i64 l] w fun e w' => e = .returned (.tuple #[]) ∧ w' = w.setCell ⟨g, 0, none⟩ (.int .i64 y) := by
  have c0 : w.cell? ⟨g, 0, none⟩ = some (.int .i64 x) := blk_cell h 0
  have f0 : w.frozen? ⟨g, 0, none⟩ = false := blk_frozen h 0
  clear h
  go_enter Try.func49, Try.ntmps49
  go_wp2
  refine bodyPost_end (results_none rfl _ _ _) rfl ?_
  exact ⟨rfl, rfl⟩
end Go.Proofs.Yteljaikpechbmaa.Hand
