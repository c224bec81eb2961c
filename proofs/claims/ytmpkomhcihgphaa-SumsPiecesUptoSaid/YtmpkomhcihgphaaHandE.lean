/- Contracts of layer 3, proved by hand: New. -/
import Derived.Test.YtmpkomhcihgphaaHandD
namespace Go.Proofs.Ytmpkomhcihgphaa.Hand
open Go.RowKit Go.Proofs.YtmpkomhcihgphaaW.PrintWords Go.Proofs.YtmpkomhcihgphaaW.PrintLast Go.Proofs.YtmpkomhcihgphaaW.PrintMore
set_option linter.unusedVariables false
set_option linter.unusedSimpArgs false

theorem look_hit {P : Program} {w : World} {r clock i : Nat} {es : Array MapEntry} {mt kt et : TypeId} (k : Int) (v : Value) (hm : P.underlying mt = some (.map kt et)) (hk : P.underlying kt = some (.int .i64))
    (hb : w.heap[r]? = some (.map es clock)) (hf : Instr.findNow (.int .i64) (.int .i64 k) es.toList 0 = some (some (i, v))) : (Instr.lookup mt (.map (some r)) (.int .i64 k) true).run P w = .ok (.tuple #[v, .bool true]) w := by
  have hc : (Instr.checkKey es.isEmpty 10000 kt (.int .i64 k)).run P w = .ok () w := MapKept.run_checkKey (k := .int .i64 k) hk (by simp [MapKept.IsKey]) _ 9999
  simp [Instr.lookup, run_underlying hm, MapKept.run_getObj_map hb, hc, MapKept.run_findKey hk hf, Result.andThen]
theorem look_miss {P : Program} {w : World} {r clock : Nat} {es : Array MapEntry} {mt kt et : TypeId} (k : Int) (z : Value) (hm : P.underlying mt = some (.map kt et)) (hk : P.underlying kt = some (.int .i64))
    (hb : w.heap[r]? = some (.map es clock)) (hf : Instr.findNow (.int .i64) (.int .i64 k) es.toList 0 = some none) (hz : (zeroValue et).run P w = .ok z w) : (Instr.lookup mt (.map (some r)) (.int .i64 k) true).run P w = .ok (.tuple #[z, .bool false]) w := by
  have hc : (Instr.checkKey es.isEmpty 10000 kt (.int .i64 k)).run P w = .ok () w := MapKept.run_checkKey (k := .int .i64 k) hk (by simp [MapKept.IsKey]) _ 9999
  simp [Instr.lookup, run_underlying hm, MapKept.run_getObj_map hb, hc, MapKept.run_findKey hk hf, Result.andThen, hz]
theorem zero_spec (w : World) : (zeroValue 42).run Try.prog w = .ok (.agg #[.int .i64 0, .int .i64 0, .bool false]) w := by kernel_rfl
/-- The sums by their kinds: bits, polynomial, whether the lowest bit comes first. -/
def specOf (k : Int) : Option (Int × Int × Bool) := if k = 8 then some (8, 7, false) else if k = 16 then some (16, 32773, false) else if k = 32 then some (32, 79764919, false) else if k = 33 then some (32, 3988292384, true) else none
theorem miss (k : Int) (h : specOf k = none) : Instr.findNow (.int .i64) (.int .i64 k) sEnts.toList 0 = some none := by
  unfold specOf at h
  by_cases h1 : k = 8
  · simp [h1] at h
  by_cases h2 : k = 16
  · simp [h2] at h
  by_cases h3 : k = 32
  · simp [h3] at h
  by_cases h4 : k = 33
  · simp [h4] at h
  have b1 : (k == 8) = false := beq_eq_false_iff_ne.2 h1
  have b2 : (k == 16) = false := beq_eq_false_iff_ne.2 h2
  have b3 : (k == 32) = false := beq_eq_false_iff_ne.2 h3
  have b4 : (k == 33) = false := beq_eq_false_iff_ne.2 h4
  simp [sEnts, sEnt, Instr.findNow, Instr.sameNow, b1, b2, b3, b4]
/-- Another kind is none. -/
theorem New_none (k : Int) (h : specOf k = none) (w : World) :
    Calls Try.prog 17 #[.int .i64 k] w fun e w' => e = .returned (.pointer none) ∧ Below w.heap.size w w' := by
  go_enter Try.func17, Try.ntmps17
  go_wp2_with fail
  refine (specs_any _).mono ?_
  rintro e w1 ⟨r, rfl, hm, hr, hB⟩
  have hl := look_miss (P := Try.prog) k _ Try.underlying44 Try.underlying3 hm (miss k h) (zero_spec w1)
  have HB := Aside0.mk hB
  clear hm hB
  have hz := zero_spec
  go_wp2
  go_ret
  exact ⟨rfl, below_alloc HB.out _⟩
theorem build_sum (b p : Int) (low : Bool) (f : Nat → Int) (W : World) : (Instr.build 50 #[(0, .agg #[.int .i64 b, .int .i64 p, .bool low]), (1, .agg (cells256 f))]).run Try.prog W = .ok (.agg (sumCells b p low f 0)) W := run_build (P := Try.prog) (w := W) 50 _ _ (sum_built b p low f)
attribute [-go_sem] Instr.build
attribute [local go_sem] build_sum
def tblF (b p : Int) (low : Bool) : Nat → Int := if low then tabL p else tabH b p
/-- A sum that lies in a block. -/
def SumAt (w : World) (g : Nat) (b p : Int) (low : Bool) (n : Int) : Prop := w.heap[g]? = some (.cells (sumCells b p low (tblF b p low) n) 50 (0, 0))
set_option maxHeartbeats 4000000 in
set_option maxRecDepth 100000 in
theorem New_high (k b p : Int) (hb : 8 ≤ b) (hb2 : b ≤ 32) (i : Nat) (hf : Instr.findNow (.int .i64) (.int .i64 k) sEnts.toList 0 = some (some (i, .agg #[.int .i64 b, .int .i64 p, .bool false]))) (w : World) :
    Calls Try.prog 17 #[.int .i64 k] w fun e w' => ∃ g, e = .returned (.pointer (some ⟨g, 0, none⟩)) ∧ w.heap.size ≤ g ∧ SumAt w' g b p false 0 ∧ Below w.heap.size w w' := by
  go_enter Try.func17, Try.ntmps17
  go_wp2_with fail
  refine (specs_any _).mono ?_
  rintro e w1 ⟨r, rfl, hm, hr, hB⟩
  have hl := look_hit (P := Try.prog) k _ Try.underlying44 Try.underlying3 hm hf
  have HB := Aside0.mk hB
  clear hm hB
  have hz := zero_spec
  have HK : Aside0 (∀ W : World, Below (w1.heap.size + 1) (w1.alloc (Obj.cells #[.int .i64 b, .int .i64 p, .bool false] 42)) W → W.cell? ⟨w1.heap.size, 0, none⟩ = some (.int .i64 b) ∧ W.cell? ⟨w1.heap.size, 1, none⟩ = some (.int .i64 p) ∧ W.cell? ⟨w1.heap.size, 2, none⟩ = some (.bool false)) := ⟨fun W hW => by
    have h := (hW.block w1.heap.size (Nat.lt_succ_self _)).trans (blk_new w1 (Obj.cells #[.int .i64 b, .int .i64 p, .bool false] 42))
    exact ⟨blk_cell h 0, blk_cell h 1, blk_cell h 2⟩⟩
  have hi : Below (w1.heap.size + 1) (w1.alloc (Obj.cells #[.int .i64 b, .int .i64 p, .bool false] 42)) (w1.alloc (Obj.cells #[.int .i64 b, .int .i64 p, .bool false] 42)).drew := below_drew (Below.refl _ _)
  obtain ⟨c0, c1, c2⟩ := HK.out _ hi
  clear hi
  go_wp2
  go_region_law (first | (go_simp; go_at_call 26; refine (table_high b p hb hb2 _).mono ?_; rintro e w3 ⟨rfl, hB3⟩; obtain ⟨d0, d1, d2⟩ := HK.out w3 ((below_drew (Below.refl _ _)).trans (by simpa using hB3))))
  all_goals
    have hB4 : Below (w1.heap.size + 1) (w1.alloc (Obj.cells #[.int .i64 b, .int .i64 p, .bool false] 42)) w3 := (below_drew (Below.refl _ _)).trans (by simpa using hB3)
    obtain ⟨g0, g1, g2⟩ := HK.out (w3.alloc (Obj.cells (sumCells b p false (tabH b p) 0) 50)) (hB4.alloc (by have := hB4.size; simpa using this) _)
    have HB4 := Aside0.mk hB4
    clear hB3 hB4
    go_wp2
    go_ret
    have hB5 : Below w.heap.size w w3 := (below_alloc HB.out _).trans (HB4.out.mono (Nat.le_trans HB.out.size (Nat.le_succ _)))
    exact ⟨_, rfl, hB5.size, blk_new w3 _, below_alloc hB5 _⟩
end Go.Proofs.Ytmpkomhcihgphaa.Hand
