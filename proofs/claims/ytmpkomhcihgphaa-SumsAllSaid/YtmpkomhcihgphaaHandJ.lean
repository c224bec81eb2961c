/- Contracts of layer 3, proved by hand: of. -/
import Derived.Test.YtmpkomhcihgphaaHandI
namespace Go.Proofs.Ytmpkomhcihgphaa.Hand
open Go.RowKit Go.Proofs.YtmpkomhcihgphaaW.PrintWords Go.Proofs.YtmpkomhcihgphaaW.PrintLast Go.Proofs.YtmpkomhcihgphaaW.PrintMore
set_option linter.unusedVariables false
set_option linter.unusedSimpArgs false

/-- A text's sum, by its kind's numbers. -/
def highF (b p : Int) (s : ByteArray) : Int := valH b (sumTo (addH b p) s 0 s.size)
def lowF (p : Int) (s : ByteArray) : Int := valL (sumTo (addL p) s 4294967295 s.size)
set_option maxHeartbeats 4000000 in
set_option maxRecDepth 100000 in
theorem of_high (k b p : Int) (hb : 8 ≤ b) (hb2 : b ≤ 32) (i : Nat) (hf : Instr.findNow (.int .i64) (.int .i64 k) sEnts.toList 0 = some (some (i, .agg #[.int .i64 b, .int .i64 p, .bool false]))) (s : ByteArray) (hs : s.size ≤ maxLen) (w : World) :
    Calls Try.prog 23 #[.int .i64 k, .string s] w fun e w' => e = .returned (.int .i64 (highF b p s)) ∧ Below w.heap.size w w' := by
  go_enter Try.func23, Try.ntmps23
  go_wp2_with fail
  refine (New_high k b p hb hb2 i hf _).mono ?_
  rintro e w1 ⟨g, rfl, hg, hS, hB⟩
  have HB := Aside0.mk hB
  have HS := Aside0.mk hS
  clear hB hS
  go_wp2_with fail
  refine (Add_high b p 0 hb hb2 g s _ HS.out hs w.heap.size hg).mono ?_
  rintro e w2 ⟨rfl, hS, hB⟩
  have HB2 := Aside0.mk (HB.out.trans hB)
  have HS2 := Aside0.mk hS
  clear hB hS HS HB
  go_wp2_with fail
  refine (Value_high b p _ hb hb2 g _ HS2.out).mono ?_
  rintro e w3 ⟨rfl, ⟨m, rfl⟩⟩
  go_wp2
  go_ret
  exact ⟨rfl, pw_below_drewN HB2.out m⟩
set_option maxHeartbeats 4000000 in
set_option maxRecDepth 100000 in
theorem of_low (k b p : Int) (i : Nat) (hf : Instr.findNow (.int .i64) (.int .i64 k) sEnts.toList 0 = some (some (i, .agg #[.int .i64 b, .int .i64 p, .bool true]))) (s : ByteArray) (hs : s.size ≤ maxLen) (w : World) :
    Calls Try.prog 23 #[.int .i64 k, .string s] w fun e w' => e = .returned (.int .i64 (lowF p s)) ∧ Below w.heap.size w w' := by
  go_enter Try.func23, Try.ntmps23
  go_wp2_with fail
  refine (New_low k b p i hf _).mono ?_
  rintro e w1 ⟨g, rfl, hg, hS, hB⟩
  have HB := Aside0.mk hB
  have HS := Aside0.mk hS
  clear hB hS
  go_wp2_with fail
  refine (Add_low b p _ g s _ HS.out hs w.heap.size hg).mono ?_
  rintro e w2 ⟨rfl, hS, hB⟩
  have HB2 := Aside0.mk (HB.out.trans hB)
  have HS2 := Aside0.mk hS
  clear hB hS HS HB
  go_wp2_with fail
  refine (Value_low b p _ g _ HS2.out).mono ?_
  rintro e w3 ⟨rfl, ⟨m, rfl⟩⟩
  go_wp2
  go_ret
  exact ⟨rfl, pw_below_drewN HB2.out m⟩
end Go.Proofs.Ytmpkomhcihgphaa.Hand
