/- Contracts of layer 3, proved by hand: Add. -/
import Derived.Test.YtmpkomhcihgphaaHandG
import Derived.StillTailTactics
namespace Go.Proofs.Ytmpkomhcihgphaa.Hand
open Go.RowKit Go.Proofs.YtmpkomhcihgphaaW.PrintWords Go.Proofs.YtmpkomhcihgphaaW.PrintLast Go.Proofs.YtmpkomhcihgphaaW.PrintMore
set_option linter.unusedVariables false
set_option linter.unusedSimpArgs false

/-- A byte's step. -/
def addH (b p n y : Int) : Int := Go.bits .xor .u32 (IntKind.u32.wrap (n * 256)) (tabH b p (Go.bits .xor .u8 (IntKind.u8.wrap (n / 2 ^ (b - 8).toNat)) y).toNat)
/-- A byte of a text. -/
def byteAt (s : ByteArray) (k : Nat) : Int := ((s.data.toList.getD k 0).toNat : Int)
/-- The sum behind so many bytes. -/
def sumTo (f : Int → Int → Int) (s : ByteArray) (n : Int) : Nat → Int
  | 0 => n
  | k + 1 => f (sumTo f s n k) (byteAt s k)
theorem byteAt_eq (s : ByteArray) (k : Nat) (h : k < s.size) : byteAt s k = (s[k].toNat : Int) := by
  have h2 : k < s.data.size := h
  simp only [byteAt, List.getD_eq_getElem?_getD, Array.getElem?_toList, Array.getElem?_eq_getElem h2, Option.getD_some]
  rfl
theorem xor8_lt (x y : Int) : 0 ≤ Go.bits .xor .u8 x y ∧ Go.bits .xor .u8 x y < 256 := by
  have e : Go.bits .xor .u8 x y = IntKind.u8.wrap ((BitVec.ofInt 8 x ^^^ BitVec.ofInt 8 y).toNat : Int) := rfl
  rw [e]
  simp [IntKind.wrap, IntKind.bits, IntKind.signed]
  omega
set_option maxHeartbeats 4000000 in
set_option maxRecDepth 100000 in
theorem Add_high (b p n : Int) (hb : 8 ≤ b) (hb2 : b ≤ 32) (g : Nat) (s : ByteArray) (w : World) (h : SumAt w g b p false n) (hs : s.size ≤ maxLen) (B : Nat) (hg : B ≤ g) :
    Calls Try.prog 20 #[.pointer (some ⟨g, 0, none⟩), .string s] w fun e w' => e = .returned (.tuple #[]) ∧ SumAt w' g b p false (sumTo (addH b p) s n s.size) ∧ (Below B w w') := by
  have hup := Try.underlying26
  have hmax : s.size ≤ 9223372036854775807 := by unfold maxLen at hs; omega
  clear hs
  go_enter Try.func20, Try.ntmps20
  go_wp2
  go_loopw [4, 9] (fun _ c wr => ∃ k : Nat, k ≤ s.size ∧ c = .int .i64 k ∧ Aside0 (SumAt wr g b p false (sumTo (addH b p) s n k)) ∧ Aside0 (Below B w wr)) (fun _ c _ => s.size - (intOf c).toNat)
  case atStart => exact ⟨0, by omega, rfl, ⟨h⟩, ⟨Below.refl _ _⟩⟩
  case round =>
    obtain ⟨k, hk, rfl, HS, HB⟩ := hrel
    by_cases hlt : k < s.size
    · have i1 : (k : Int) < (s.size : Int) := by omega
      obtain ⟨m, hm⟩ : ∃ m, sumTo (addH b p) s n k = m := ⟨_, rfl⟩
      have HM := Aside0.mk hm
      rw [hm] at HS
      clear hm
      have c0 : wr.cell? ⟨g, 0, none⟩ = some (.int .i64 b) := blk_cell HS.out 0
      have c2 : wr.cell? ⟨g, 2, none⟩ = some (.bool false) := blk_cell HS.out 2
      have cn : wr.cell? ⟨g, 259, none⟩ = some (.int .u32 m) := (blk_cell HS.out 259).trans (sum_n b p false _ m)
      have cf : wr.frozen? ⟨g, 259, none⟩ = false := blk_frozen HS.out 259
      have e8 : IntKind.i64.wrap (b - 8) = b - 8 := by rw [IntKind.wrap_i64]; omega
      have e8p : 0 ≤ b - 8 := by omega
      obtain ⟨x0, x1⟩ := xor8_lt (IntKind.u8.wrap (m / 2 ^ (b - 8).toNat)) (s[k].toNat : Int)
      have cx : wr.cell? ⟨g, 3 + (Go.bits .xor .u8 (IntKind.u8.wrap (m / 2 ^ (b - 8).toNat)) (s[k].toNat : Int)).toNat, none⟩ = some (.int .u32 (tabH b p (Go.bits .xor .u8 (IntKind.u8.wrap (m / 2 ^ (b - 8).toNat)) (s[k].toNat : Int)).toNat)) :=
        (blk_cell HS.out _).trans (sum_at b p false _ m _ (by omega))
      go_wp2
      go_still_tail 30, (by kernel_rfl)
      have cn2 : wr.drew.cell? ⟨g, 259, none⟩ = some (.int .u32 m) := cn
      have cf2 : wr.drew.frozen? ⟨g, 259, none⟩ = false := cf
      have HS2 := Aside0.mk (blk_drew HS.out)
      have HB2 := Aside0.mk (below_drew1 HB.out)
      clear cn cf cx c0 c2 e8 e8p x0 x1
      change wpList _ _ _ _ _ wr.drew
      generalize wr.drew = w2 at cn2 cf2 HS2 HB2 ⊢
      go_wp2
      refine ⟨⟨k + 1, by omega, by go_num, ⟨?_⟩, ⟨?_⟩⟩, by simp [intOf]; omega⟩
      · simp only [sumTo]
        rw [HM.out, byteAt_eq s k hlt]
        unfold addH
        exact blk_put HS2.out 259 _ (sum_set b p false _ m _)
      · exact HB2.out.setCell hg _
    · obtain rfl : k = s.size := by omega
      go_wp2
      refine bodyPost_end (results_none rfl _ _ _) rfl ?_
      exact ⟨rfl, HS.out, HB.out⟩
end Go.Proofs.Ytmpkomhcihgphaa.Hand
