/- Contracts of layer 18, proved by hand: an encoder's shift. -/
import Derived.Test.YtoologbaoifheaaHandA
namespace Go.Proofs.Ytoologbaoifheaa.Hand
open Go.RowKit Go.Proofs.YtoologbaoifheaaW.PrintWords Go.Proofs.YtoologbaoifheaaW.PrintLast Go.Proofs.YtoologbaoifheaaW.PrintMore
set_option linter.unusedVariables false
set_option linter.unusedSimpArgs false

def flushes (s : Enc) : Prop := s.low < 4278190080 ∨ 4294967296 ≤ s.low
instance (s : Enc) : Decidable (flushes s) := by unfold flushes; infer_instance
def onE (s : Enc) : Enc := { s with count := s.count + 1, low := s.low * 256 % 4294967296 }
def shiftE (s : Enc) : Enc := onE (if flushes s then carryE s else s)
set_option maxHeartbeats 4000000 in
set_option maxRecDepth 100000 in
theorem shift_any (s : Enc) (B g : Nat) (v : Value) (w : World) (h : EncAt w B g v s) (h0 : 0 ≤ s.low) (h1 : s.low < 72057594037927936) (hc0 : 0 ≤ s.count) (hc : s.count ≤ 4611686018427387904) (hl : s.out.length + s.count.toNat < 140737488355328) :
    Calls Try.prog 46 #[.pointer (some ⟨g, 0, none⟩)] w fun e w' => e = .returned (.tuple #[]) ∧ ∃ v', EncAt w' B g v' (shiftE s) ∧ Moved B g w v w' v' := by
  have hup := Try.underlying42
  have hmf : ∀ (fn : Fn) (first cap : Array Value) (w : World), (Instr.makeFunc fn first cap).run Try.prog w = .ok (.func fn first cap) w := fun _ _ _ _ => rfl
  have H := Aside0.mk h
  have c0 : w.cell? ⟨g, 0, none⟩ = some (.int .u64 s.low) := h.cell 0
  have c3 : w.cell? ⟨g, 3, none⟩ = some (.int .i64 s.count) := h.cell 3
  have f0 : w.frozen? ⟨g, 0, none⟩ = false := blk_frozen h.1 0
  have f3 : w.frozen? ⟨g, 3, none⟩ = false := blk_frozen h.1 3
  clear h
  by_cases hf : flushes s
  · have hE : shiftE s = onE (carryE s) := by unfold shiftE; rw [if_pos hf]
    have HE := Aside0.mk hE
    have hd := hf
    unfold flushes at hd
    clear hE hf
    go_enter Try.func46, Try.ntmps46
    go_wp2_with fail
    all_goals
      refine (carry_any s B g v _ H.out hc hl).mono ?_
      rintro e w1 ⟨rfl, v1, hE1, hM1⟩
      have HE1 := Aside0.mk hE1
      have HM1 := Aside0.mk hM1
      clear hE1 hM1 c0 c3 f0 f3
      have c0 : w1.cell? ⟨g, 0, none⟩ = some (.int .u64 s.low) := HE1.out.cell 0
      have c3 : w1.cell? ⟨g, 3, none⟩ = some (.int .i64 0) := HE1.out.cell 3
      have f0 : w1.frozen? ⟨g, 0, none⟩ = false := blk_frozen HE1.out.1 0
      have f3 : w1.frozen? ⟨g, 3, none⟩ = false := blk_frozen HE1.out.1 3
      go_wp2
      refine bodyPost_end (results_none rfl _ _ _) rfl ?_
      rw [HE.out]
      refine ⟨rfl, v1, (HE1.out.set (s' := { carryE s with count := 1 }) 3 _ ?_ rfl).set 0 _ ?_ rfl, (HM1.out.set H.out.2.2 3 _).set H.out.2.2 0 _⟩
      · simp [encCells, carryE]
      · simp [encCells, carryE, onE, and_mask_u64 32 (by decide) (s.low * 256) 4294967295 (by omega) (by omega) rfl]
  · have hE : shiftE s = onE s := by unfold shiftE; rw [if_neg hf]
    have HE := Aside0.mk hE
    have hd := hf
    unfold flushes at hd
    have d1 : ¬ s.low < 4278190080 := fun h => hd (.inl h)
    have d2 : s.low < 4294967296 := by omega
    clear hE hf hd
    go_enter Try.func46, Try.ntmps46
    go_wp2
    refine bodyPost_end (results_none rfl _ _ _) rfl ?_
    rw [HE.out]
    refine ⟨rfl, v, (H.out.set (s' := { s with count := s.count + 1 }) 3 _ ?_ rfl).set 0 _ ?_ rfl, ((Moved.refl B g w v).set H.out.2.2 3 _).set H.out.2.2 0 _⟩
    · simp [encCells]
    · simp [encCells, onE, and_mask_u64 32 (by decide) (s.low * 256) 4294967295 (by omega) (by omega) rfl]
end Go.Proofs.Ytoologbaoifheaa.Hand
