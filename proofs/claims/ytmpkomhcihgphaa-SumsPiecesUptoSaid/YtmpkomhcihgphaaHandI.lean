/- Contracts of layer 3, proved by hand: Add, the lowest bit first. -/
import Derived.Test.YtmpkomhcihgphaaHandH
namespace Go.Proofs.Ytmpkomhcihgphaa.Hand
open Go.RowKit Go.Proofs.YtmpkomhcihgphaaW.PrintWords Go.Proofs.YtmpkomhcihgphaaW.PrintLast Go.Proofs.YtmpkomhcihgphaaW.PrintMore
set_option linter.unusedVariables false
set_option linter.unusedSimpArgs false

def addL (p n y : Int) : Int := Go.bits .xor .u32 (n / 256) (tabL p (Go.bits .xor .u8 (IntKind.u8.wrap n) y).toNat)
set_option maxHeartbeats 4000000 in
set_option maxRecDepth 100000 in
theorem Add_low (b p n : Int) (g : Nat) (s : ByteArray) (w : World) (h : SumAt w g b p true n) (hs : s.size ≤ maxLen) (B : Nat) (hg : B ≤ g) :
    Calls Try.prog 20 #[.pointer (some ⟨g, 0, none⟩), .string s] w fun e w' => e = .returned (.tuple #[]) ∧ SumAt w' g b p true (sumTo (addL p) s n s.size) ∧ (Below B w w') := by
  have hup := Try.underlying26
  have hmax : s.size ≤ 9223372036854775807 := by unfold maxLen at hs; omega
  clear hs
  go_enter Try.func20, Try.ntmps20
  go_wp2
  go_loopw [4, 9] (fun _ c wr => ∃ k : Nat, k ≤ s.size ∧ c = .int .i64 k ∧ Aside0 (SumAt wr g b p true (sumTo (addL p) s n k)) ∧ Aside0 (Below B w wr)) (fun _ c _ => s.size - (intOf c).toNat)
  case atStart => exact ⟨0, by omega, rfl, ⟨h⟩, ⟨Below.refl _ _⟩⟩
  case round =>
    obtain ⟨k, hk, rfl, HS, HB⟩ := hrel
    by_cases hlt : k < s.size
    · have i1 : (k : Int) < (s.size : Int) := by omega
      obtain ⟨m, hm⟩ : ∃ m, sumTo (addL p) s n k = m := ⟨_, rfl⟩
      have HM := Aside0.mk hm
      rw [hm] at HS
      clear hm
      have c2 : wr.cell? ⟨g, 2, none⟩ = some (.bool true) := blk_cell HS.out 2
      have cn : wr.cell? ⟨g, 259, none⟩ = some (.int .u32 m) := (blk_cell HS.out 259).trans (sum_n b p true _ m)
      have cf : wr.frozen? ⟨g, 259, none⟩ = false := blk_frozen HS.out 259
      obtain ⟨x0, x1⟩ := xor8_lt (IntKind.u8.wrap m) (s[k].toNat : Int)
      have cx : wr.cell? ⟨g, 3 + (Go.bits .xor .u8 (IntKind.u8.wrap m) (s[k].toNat : Int)).toNat, none⟩ = some (.int .u32 (tabL p (Go.bits .xor .u8 (IntKind.u8.wrap m) (s[k].toNat : Int)).toNat)) :=
        (blk_cell HS.out _).trans (sum_at b p true _ m _ (by omega))
      go_wp2
      go_still_tail 22, (by kernel_rfl)
      have cn2 : wr.drew.cell? ⟨g, 259, none⟩ = some (.int .u32 m) := cn
      have cf2 : wr.drew.frozen? ⟨g, 259, none⟩ = false := cf
      have HS2 := Aside0.mk (blk_drew HS.out)
      have HB2 := Aside0.mk (below_drew1 HB.out)
      clear cn cf cx c2 x0 x1
      change wpList _ _ _ _ _ wr.drew
      generalize wr.drew = w2 at cn2 cf2 HS2 HB2 ⊢
      go_wp2
      refine ⟨⟨k + 1, by omega, by go_num, ⟨?_⟩, ⟨?_⟩⟩, by simp [intOf]; omega⟩
      · simp only [sumTo]
        rw [HM.out, byteAt_eq s k hlt]
        unfold addL
        exact blk_put HS2.out 259 _ (sum_set b p true _ m _)
      · exact HB2.out.setCell hg _
    · obtain rfl : k = s.size := by omega
      go_wp2
      refine bodyPost_end (results_none rfl _ _ _) rfl ?_
      exact ⟨rfl, HS.out, HB.out⟩
end Go.Proofs.Ytmpkomhcihgphaa.Hand
