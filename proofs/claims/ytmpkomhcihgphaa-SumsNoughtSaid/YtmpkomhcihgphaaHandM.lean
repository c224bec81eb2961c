/- Contracts of layer 3, proved by hand: awake. -/
import Derived.Test.YtmpkomhcihgphaaHandL
namespace Go.Proofs.Ytmpkomhcihgphaa.Hand
open Go.RowKit Go.Proofs.YtmpkomhcihgphaaW.PrintWords Go.Proofs.YtmpkomhcihgphaaW.PrintLast Go.Proofs.YtmpkomhcihgphaaW.PrintMore
set_option linter.unusedVariables false
set_option linter.unusedSimpArgs false

theorem digits_8 : sumF 8 ⟨#[49, 50, 51, 52, 53, 54, 55, 56, 57]⟩ = 244 := by decide +kernel
theorem digits_16 : sumF 16 ⟨#[49, 50, 51, 52, 53, 54, 55, 56, 57]⟩ = 65256 := by decide +kernel
theorem digits_32 : sumF 32 ⟨#[49, 50, 51, 52, 53, 54, 55, 56, 57]⟩ = 2309065087 := by decide +kernel
theorem digits_33 : sumF 33 ⟨#[49, 50, 51, 52, 53, 54, 55, 56, 57]⟩ = 3421780262 := by decide +kernel
theorem none_16 : sumF 16 ⟨#[]⟩ = 0 := by decide +kernel
set_option maxHeartbeats 4000000 in
set_option maxRecDepth 100000 in
theorem awake_any (w : World) : Calls Try.prog 16 #[] w fun e w' => e = .returned (.bool true) ∧ Below w.heap.size w w' := by
  have hup := Try.underlying26
  go_enter Try.func16, Try.ntmps16
  go_wp2_with fail
  refine (Crc8_any _ (by decide) _).mono ?_
  rintro e w1 ⟨rfl, hB⟩
  rw [digits_8]
  have HB1 := Aside0.mk hB
  clear hB
  go_wp2_with fail
  refine (Crc16_any _ (by decide) _).mono ?_
  rintro e w2 ⟨rfl, hB⟩
  rw [digits_16]
  have HB2 := Aside0.mk (HB1.out.trans (hB.mono HB1.out.size))
  clear hB HB1
  go_wp2_with fail
  refine (Ogg_any _ (by decide) _).mono ?_
  rintro e w3 ⟨rfl, hB⟩
  rw [digits_32]
  have HB3 := Aside0.mk (HB2.out.trans (hB.mono HB2.out.size))
  clear hB HB2
  go_wp2_with fail
  refine (Crc32_any _ (by decide) _).mono ?_
  rintro e w4 ⟨rfl, hB⟩
  rw [digits_33]
  have HB4 := Aside0.mk (HB3.out.trans (hB.mono HB3.out.size))
  clear hB HB3
  go_wp2_with fail
  refine (Crc16_any _ (by decide) _).mono ?_
  rintro e w5 ⟨rfl, hB⟩
  rw [none_16]
  have HB5 := Aside0.mk (HB4.out.trans (hB.mono HB4.out.size))
  clear hB HB4
  go_wp2_with fail
  refine (New_none 7 rfl _).mono ?_
  rintro e w6 ⟨rfl, hB⟩
  have HB6 := Aside0.mk (HB5.out.trans (hB.mono HB5.out.size))
  clear hB HB5
  go_wp2
  go_ret
  exact ⟨rfl, HB6.out⟩
end Go.Proofs.Ytmpkomhcihgphaa.Hand
