/- Contracts of layer 3, proved by hand: the map of the sums. -/
import Derived.Test.YtmpkomhcihgphaaProg
import Derived.WalkKit
import Derived.KernelRfl
import Derived.Below
import Derived.BigRegion
import Derived.Deep.LoopGhost
import Derived.Deep.Draws
import Derived.Deep.QuietTactic
import Derived.BigQuiet
import Derived.Deep.RegionLaw
import Derived.Lib.SliceRun
import Derived.MapKept
import Derived.Carry
import Derived.Maps.Own
import Derived.Deep.MidRow
import Derived.Test.YtmpkomhcihgphaaWWords
import Derived.Test.YtmpkomhcihgphaaWMore
import Derived.Test.YtmpkomhcihgphaaWLast
namespace Go.Proofs.Ytmpkomhcihgphaa.Hand
open Go.RowKit Go.Maps Go.Proofs.YtmpkomhcihgphaaW.PrintWords Go.Proofs.YtmpkomhcihgphaaW.PrintLast Go.Proofs.YtmpkomhcihgphaaW.PrintMore
set_option linter.unusedVariables false
set_option linter.unusedSimpArgs false

/-- A new key in a map of whole numbers. -/
theorem put_new {P : Program} {w : World} {base r clock : Nat} {es : Array MapEntry} {mt kt et : TypeId} (k : Int) (v : Value) (hm : P.underlying mt = some (.map kt et)) (hk : P.underlying kt = some (.int .i64))
    (hb : w.heap[r]? = some (.map es clock)) (hf : Instr.findNow (.int .i64) (.int .i64 k) es.toList 0 = some none) (hr : base ≤ r) :
    ∃ w1, (Instr.mapUpdate mt (.map (some r)) (.int .i64 k) v).run P w = .ok () w1 ∧ w1.heap[r]? = some (.map (es.push { key := .int .i64 k, val := v, born := clock }) (clock + 1)) ∧ Below base w w1 := by
  have hc : (Instr.checkKey false 10000 kt (.int .i64 k)).run P w = .ok () w := MapKept.run_checkKey (k := .int .i64 k) hk (by simp [MapKept.IsKey]) false 9999
  refine ⟨{ w with heap := w.heap.setIfInBounds r (.map (es.push { key := .int .i64 k, val := v, born := clock }) (clock + 1)) }, ?_, ?_, ?_⟩
  · simp [Instr.mapUpdate, run_underlying hm, MapKept.run_getObj_map hb, hc, MapKept.run_findKey hk hf, MapKept.run_setObj_map _ hb, Result.andThen]
  · exact Go.ChangeMaps.heap_setBlock_same hb _
  · refine ⟨rfl, rfl, rfl, by simp, fun i hi => ?_⟩
    exact Go.ChangeMaps.heap_setBlock_other hb _ (by omega)

/-- What specs gives: kind, bits, poly, low. -/
def sEnt (k b p : Int) (low : Bool) (born : Nat) : MapEntry := { key := .int .i64 k, val := .agg #[.int .i64 b, .int .i64 p, .bool low], born := born }
def sEnts : Array MapEntry := #[sEnt 8 8 7 false 0, sEnt 16 16 32773 false 1, sEnt 32 32 79764919 false 2, sEnt 33 32 3988292384 true 3]
set_option maxHeartbeats 1000000 in
set_option maxRecDepth 100000 in
theorem specs_any (w : World) :
    Calls Try.prog 25 #[] w fun e w' => ∃ r, e = .returned (.map (some r)) ∧ w'.heap[r]? = some (.map sEnts 4) ∧ w.heap.size ≤ r ∧ Below w.heap.size w w' := by
  have hmm := @run_makeMap Try.prog
  have h0 : (w.alloc (.map #[] 0)).heap[w.heap.size]? = some (.map #[] 0) := heap_alloc_new w _
  obtain ⟨w1, r1, h1, b1⟩ := put_new (P := Try.prog) (base := w.heap.size) 8 (.agg #[.int .i64 8, .int .i64 7, .bool false]) Try.underlying44 Try.underlying3 h0 rfl (Nat.le_refl _)
  obtain ⟨w2, r2, h2, b2⟩ := put_new (P := Try.prog) (base := w.heap.size) 16 (.agg #[.int .i64 16, .int .i64 32773, .bool false]) Try.underlying44 Try.underlying3 h1 rfl (Nat.le_refl _)
  obtain ⟨w3, r3, h3, b3⟩ := put_new (P := Try.prog) (base := w.heap.size) 32 (.agg #[.int .i64 32, .int .i64 79764919, .bool false]) Try.underlying44 Try.underlying3 h2 rfl (Nat.le_refl _)
  obtain ⟨w4, r4, h4, b4⟩ := put_new (P := Try.prog) (base := w.heap.size) 33 (.agg #[.int .i64 32, .int .i64 3988292384, .bool true]) Try.underlying44 Try.underlying3 h3 rfl (Nat.le_refl _)
  have H4 := Aside0.mk h4
  have HB := Aside0.mk ((((below_alloc (Below.refl w.heap.size w) (.map #[] 0)).trans b1).trans b2).trans b3 |>.trans b4)
  clear h0 h1 h2 h3 h4 b1 b2 b3 b4
  go_enter Try.func25, Try.ntmps25
  go_wp2
  go_ret
  exact ⟨_, rfl, H4.out, Nat.le_refl _, HB.out⟩
end Go.Proofs.Ytmpkomhcihgphaa.Hand
