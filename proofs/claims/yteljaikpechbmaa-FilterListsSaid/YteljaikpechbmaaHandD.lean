/- Contracts of layer 17, proved by hand: new filters. -/
import Derived.Test.YteljaikpechbmaaHandC
import Derived.Laws.MakeOwn
import Derived.RegionTactic
namespace Go.Proofs.Yteljaikpechbmaa.Hand
open Go.RowKit Go.Proofs.Yteljaikpechbmaa.Q Go.Proofs.YteljaikpechbmaaW.PrintWords Go.Proofs.YteljaikpechbmaaW.PrintLast Go.Proofs.YteljaikpechbmaaW.PrintMore
set_option linter.unusedVariables false
set_option linter.unusedSimpArgs false

/-- A row of noughts. -/
def zrow (k : IntKind) (n : Nat) : Array Value := ((List.replicate n 0).map (Value.int k)).toArray
theorem Row.zeros (w : World) (k : IntKind) (n T : Nat) : Row (w.alloc (.cells (zrow k n) T)) w.heap.size k T (List.replicate n 0) := blk_new w _
theorem info16 : (Try.prog.info? 68).map (fun i => (i.zero, i.size, i.bytes)) = some (some (.int .i16 0), 1, 2) := by kernel_rfl
theorem info64 : (Try.prog.info? 3).map (fun i => (i.zero, i.size, i.bytes)) = some (some (.int .i64 0), 1, 8) := by kernel_rfl
theorem made_zrow (k : IntKind) (n : Nat) : madeCells (Value.int k 0).cells (n * 1) = zrow k n := by
  apply Array.ext'
  simp [madeCells, zrow, Value.cells, Nat.mod_one]
  apply List.ext_getElem
  · simp
  · intro i h1 h2
    simp
theorem make16 (n : Nat) (hn : n ≤ 64) (w : World) : (Instr.makeSlice 65 (.int .i64 n) (.int .i64 n)).run Try.prog w = .ok (.slice (some ⟨w.heap.size, 0, none⟩) n n) (w.alloc (.cells (zrow .i16 n) 68)) := by
  obtain ⟨i0, hi, hz0, hz1, hz2⟩ := info_parts info16
  have := run_make w 65 68 i0 _ Try.underlying65 hi hz0 .i64 .i64 n n (by omega) (by omega) (by rw [hz2]; omega) (by omega)
  rw [Int.toNat_natCast, hz1, made_zrow] at this
  exact this
theorem make64 (n : Nat) (hn : n ≤ 64) (w : World) : (Instr.makeSlice 22 (.int .i64 n) (.int .i64 n)).run Try.prog w = .ok (.slice (some ⟨w.heap.size, 0, none⟩) n n) (w.alloc (.cells (zrow .i64 n) 3)) := by
  obtain ⟨i0, hi, hz0, hz1, hz2⟩ := info_parts info64
  have := run_make w 22 3 i0 _ Try.underlying22 hi hz0 .i64 .i64 n n (by omega) (by omega) (by rw [hz2]; omega) (by omega)
  rw [Int.toNat_natCast, hz1, made_zrow] at this
  exact this
/-- New taps. -/
def FreshTap (n : Nat) (w : World) (e : Ending) (w' : World) : Prop :=
  ∃ g bw bs, e = .returned (.pointer (some ⟨g, 0, none⟩)) ∧ TapAt w' g bw bs n (List.replicate n 0) (List.replicate n 0) 0 ∧ w.heap.size ≤ g ∧ w.heap.size ≤ bw ∧ w.heap.size ≤ bs ∧ Below w.heap.size w w'
theorem fresh_a (n : Nat) (hn : 0 < n) (w : World) : FreshTap n w (.returned (.pointer (some ⟨w.heap.size + 1 + 1, 0, none⟩))) ((((w.alloc (.cells (zrow .i16 n) 68)).alloc (.cells (zrow .i64 n) 3)).alloc (.cells #[.slice (some ⟨w.heap.size, 0, none⟩) n n, .slice (some ⟨w.heap.size + 1, 0, none⟩) n n, .int .i64 0] 67)).drew) := by
  have h1 : Row (w.alloc (.cells (zrow .i16 n) 68)) w.heap.size .i16 68 (List.replicate n 0) := Row.zeros w _ _ _
  have h2 := Row.zeros (w.alloc (.cells (zrow .i16 n) 68)) .i64 n 3
  have s1 : (w.alloc (.cells (zrow .i16 n) 68)).heap.size = w.heap.size + 1 := by simp
  rw [s1] at h2
  have h3 := blk_new ((w.alloc (.cells (zrow .i16 n) 68)).alloc (.cells (zrow .i64 n) 3)) (.cells #[.slice (some ⟨w.heap.size, 0, none⟩) n n, .slice (some ⟨w.heap.size + 1, 0, none⟩) n n, .int .i64 0] 67)
  have s2 : ((w.alloc (.cells (zrow .i16 n) 68)).alloc (.cells (zrow .i64 n) 3)).heap.size = w.heap.size + 1 + 1 := by simp
  rw [s2] at h3
  refine ⟨w.heap.size + 1 + 1, w.heap.size, w.heap.size + 1, rfl, ⟨h3, blk_alloc (blk_alloc h1 _) _, blk_alloc h2 _, by simp, by simp, hn⟩, by omega, by omega, by omega, below_drew ((((Below.refl _ _).alloc (Nat.le_refl _) _).alloc (by simp) _).alloc (by simp; omega) _)⟩
theorem fresh_b (n : Nat) (hn : 0 < n) (w : World) : FreshTap n w (.returned (.pointer (some ⟨w.heap.size + 1 + 1, 0, none⟩))) ((((w.alloc (.cells (zrow .i64 n) 3)).alloc (.cells (zrow .i16 n) 68)).alloc (.cells #[.slice (some ⟨w.heap.size + 1, 0, none⟩) n n, .slice (some ⟨w.heap.size, 0, none⟩) n n, .int .i64 0] 67)).drew) := by
  have h1 : Row (w.alloc (.cells (zrow .i64 n) 3)) w.heap.size .i64 3 (List.replicate n 0) := Row.zeros w _ _ _
  have h2 := Row.zeros (w.alloc (.cells (zrow .i64 n) 3)) .i16 n 68
  have s1 : (w.alloc (.cells (zrow .i64 n) 3)).heap.size = w.heap.size + 1 := by simp
  rw [s1] at h2
  have h3 := blk_new ((w.alloc (.cells (zrow .i64 n) 3)).alloc (.cells (zrow .i16 n) 68)) (.cells #[.slice (some ⟨w.heap.size + 1, 0, none⟩) n n, .slice (some ⟨w.heap.size, 0, none⟩) n n, .int .i64 0] 67)
  have s2 : ((w.alloc (.cells (zrow .i64 n) 3)).alloc (.cells (zrow .i16 n) 68)).heap.size = w.heap.size + 1 + 1 := by simp
  rw [s2] at h3
  refine ⟨w.heap.size + 1 + 1, w.heap.size + 1, w.heap.size, rfl, ⟨h3, blk_alloc h2 _, blk_alloc (blk_alloc h1 _) _, by simp, by simp, hn⟩, by omega, by omega, by omega, below_drew ((((Below.refl _ _).alloc (Nat.le_refl _) _).alloc (by simp) _).alloc (by simp; omega) _)⟩
set_option maxHeartbeats 4000000 in
theorem newTaps_any (n : Nat) (h0 : 0 < n) (hn : n ≤ 64) (w : World) : Calls Try.prog 24 #[.int .i64 n] w (FreshTap n w) := by
  have m1 := make16 n hn
  have m2 := make64 n hn
  have HA := Aside0.mk (fresh_a n h0 w)
  have HB := Aside0.mk (fresh_b n h0 w)
  clear hn
  go_enter Try.func24, Try.ntmps24
  go_wp2
  go_region
  all_goals
    go_wp2
    go_ret
    first | exact HA.out | exact HB.out
end Go.Proofs.Yteljaikpechbmaa.Hand
