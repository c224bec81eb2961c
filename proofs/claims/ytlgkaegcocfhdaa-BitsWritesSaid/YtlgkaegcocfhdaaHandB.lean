/- Contracts of layer 1, proved by hand: a writer's lay, New, Len, Bytes. -/
import Derived.Test.YtlgkaegcocfhdaaHandA
namespace Go.Proofs.Ytlgkaegcocfhdaa.Hand
open Go.RowKit Go.Proofs.YtlgkaegcocfhdaaW.PrintWords Go.Proofs.YtlgkaegcocfhdaaW.PrintLast Go.Proofs.YtlgkaegcocfhdaaW.PrintMore
set_option linter.unusedVariables false
set_option linter.unusedSimpArgs false

theorem bit_of (u k : Nat) (hu : u < 18446744073709551616) : (Go.bits .and .u64 ((u : Int) / 2 ^ k) 1 == 1) = u.testBit k := by
  have hq : (u : Int) / 2 ^ k = ((u / 2 ^ k : Nat) : Int) := by simp
  have hle : u / 2 ^ k ≤ u := Nat.div_le_self _ _
  rw [Nat.testBit_eq_decide_div_mod_eq, hq]
  generalize u / 2 ^ k = q at hle
  rw [and_mask_u64 1 (by decide) _ 1 (by omega) (by omega) rfl, show (2 : Int) ^ 1 = 2 from rfl]
  by_cases h : q % 2 = 1
  · rw [decide_eq_true h]
    have : (q : Int) % 2 = 1 := by omega
    rw [this]
    rfl
  · rw [decide_eq_false h]
    have : (q : Int) % 2 = 0 := by omega
    rw [this]
    rfl
set_option maxHeartbeats 4000000 in
set_option maxRecDepth 100000 in
theorem lay_any (u W : Nat) (bs : List Bool) (hu : u < 18446744073709551616) (hW : W ≤ 64) (B g : Nat) (v : Value) (w : World) (h : WAt w B g v bs) (hl : bs.length + 64 < 1125899906842624) :
    Calls Try.prog 37 #[.pointer (some ⟨g, 0, none⟩), .int .u64 u, .int .i64 W] w fun e w' => e = .returned (.tuple #[]) ∧ ∃ v', WAt w' B g v' (bs ++ nbits u W) ∧ Moved B g w v w' v' := by
  have hup := Try.underlying22
  have H := Aside0.mk h
  clear h
  go_enter Try.func37, Try.ntmps37
  go_wp2
  go_loopg [6] W (fun k i wr => ∃ (v' : Value), k ≤ W ∧ i = .int .i64 ((k : Int) - 1) ∧ Aside0 (WAt wr B g v' (bs ++ (nbits u W).take (W - k))) ∧ Aside0 (Moved B g w v wr v'))
  case atStart => exact ⟨v, by omega, rfl, by simpa using H, ⟨Moved.refl B g w v⟩⟩
  case round =>
    obtain ⟨v', hk, rfl, HE, HM⟩ := hrel
    cases gk with
    | zero =>
      go_wp2
      refine bodyPost_end (results_none rfl _ _ _) rfl ?_
      refine ⟨rfl, v', ?_, HM.out⟩
      have := HE.out
      rw [Nat.sub_zero, List.take_of_length_le (by rw [nbits_length]; omega)] at this
      exact this
    | succ k =>
      have hb := bit_of u k hu
      have ek : (((k + 1 : Nat) : Int) - 1) = (k : Int) := by omega
      rw [ek]
      have hlen : (bs ++ (nbits u W).take (W - (k + 1))).length < 1125899906842624 := by
        rw [List.length_append, List.length_take, nbits_length]; omega
      have hnext : (nbits u W).take (W - k) = (nbits u W).take (W - (k + 1)) ++ [u.testBit k] := by
        have := nbits_take u W (W - (k + 1)) (by omega)
        rw [show W - (k + 1) + 1 = W - k by omega, show W - 1 - (W - (k + 1)) = k by omega] at this
        exact this
      obtain ⟨one, h1⟩ : ∃ one, u.testBit k = one := ⟨_, rfl⟩
      rw [h1] at hb hnext
      have HX := Aside0.mk hnext
      have HLN := Aside0.mk hlen
      have k64 : (k : Int) < 64 := by omega
      clear hnext h1 hlen ek
      go_wp2_with fail
      refine (bit_any _ one B g v' wr HE.out HLN.out).mono ?_
      rintro e w2 ⟨rfl, v2, hE, hM⟩
      have HE2 := Aside0.mk hE
      have HM2 := Aside0.mk (HM.out.trans hM)
      clear hE hM
      go_wp2
      go_roundg k
      case measure => omega
      case rel => exact ⟨v2, by omega, rfl, by rw [HX.out, ← List.append_assoc]; exact HE2, HM2⟩
set_option maxHeartbeats 1000000 in
theorem New_any (w : World) : Calls Try.prog 8 #[] w fun e w' => e = .returned (.pointer (some ⟨w.heap.size, 0, none⟩)) ∧ w' = w.alloc (.cells #[.int .i64 0, .slice none 0 0] 66) := by
  go_enter Try.func8, Try.ntmps8
  go_wp2
  go_ret
  exact ⟨rfl, rfl⟩
theorem new_at (w : World) (B : Nat) (hB : B ≤ w.heap.size) : WAt (w.alloc (.cells #[.int .i64 0, .slice none 0 0] 66)) B w.heap.size (.slice none 0 0) [] := ⟨blk_new w _, BytesAt.nil _ _, hB⟩
set_option maxHeartbeats 1000000 in
theorem Len_nil (w : World) : Calls Try.prog 13 #[.pointer none] w fun e w' => e = .returned (.int .i64 0) ∧ w = w' := by
  have hup := Try.underlying22
  go_enter Try.func13, Try.ntmps13
  go_wp2
  go_ret
  exact ⟨rfl, rfl⟩
set_option maxHeartbeats 1000000 in
theorem Len_any (bs : List Bool) (B g : Nat) (v : Value) (w : World) (h : WAt w B g v bs) : Calls Try.prog 13 #[.pointer (some ⟨g, 0, none⟩)] w fun e w' => e = .returned (.int .i64 bs.length) ∧ w = w' := by
  have hup := Try.underlying22
  have c0 : w.cell? ⟨g, 0, none⟩ = some (.int .i64 bs.length) := blk_cell h.1 0
  clear h
  go_enter Try.func13, Try.ntmps13
  go_wp2_with fail
  refine (at_any g _ _ c0).mono ?_
  rintro e w' ⟨rfl, rfl⟩
  go_wp2
  go_ret
  exact ⟨rfl, rfl⟩
set_option maxHeartbeats 1000000 in
theorem Bytes_nil (w : World) : Calls Try.prog 29 #[.pointer none] w fun e w' => e = .returned (.string ⟨#[]⟩) ∧ w = w' := by
  have hup := Try.underlying22
  go_enter Try.func29, Try.ntmps29
  go_wp2
  go_ret
  exact ⟨rfl, rfl⟩
set_option maxHeartbeats 1000000 in
theorem Bytes_any (bs : List Bool) (B g : Nat) (v : Value) (w : World) (h : WAt w B g v bs) : Calls Try.prog 29 #[.pointer (some ⟨g, 0, none⟩)] w fun e w' => e = .returned (.string (strOfNums (pack bs))) ∧ w = w' := by
  have hup := Try.underlying22
  have c1 : w.cell? ⟨g, 1, none⟩ = some v := blk_cell h.1 1
  have hcv := h.2.1.text
  clear h
  go_enter Try.func29, Try.ntmps29
  go_wp2
  go_ret
  exact ⟨rfl, rfl⟩
end Go.Proofs.Ytlgkaegcocfhdaa.Hand
