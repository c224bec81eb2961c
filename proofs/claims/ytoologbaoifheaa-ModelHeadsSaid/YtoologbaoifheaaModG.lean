/- Contracts of layer 19, proved by hand: awake. -/
import Derived.Test.YtoologbaoifheaaMathG
import Derived.Laws.MakeOwn
namespace Go.Proofs.Ytoologbaoifheaa.Hand
open Go.RowKit Go.Proofs.Ytoologbaoifheaa.Q Go.Proofs.Ytoologbaoifheaa.Math Go.Proofs.YtoologbaoifheaaW.PrintWords Go.Proofs.YtoologbaoifheaaW.PrintLast Go.Proofs.YtoologbaoifheaaW.PrintMore
set_option linter.unusedVariables false
set_option linter.unusedSimpArgs false

def nrow : Array Value := (noughts.map (Value.int .i64)).toArray
theorem made_zeros (n : Nat) : madeCells (Value.int .i64 0).cells (n * 1) = ((List.replicate n (0 : Int)).map (Value.int .i64)).toArray := by
  apply Array.ext'
  simp [madeCells, Value.cells, Nat.mod_one]
  apply List.ext_getElem
  · simp
  · intro i h1 h2
    simp
theorem made_nrow : madeCells (Value.int .i64 0).cells (1000 * 1) = nrow := made_zeros 1000
theorem make1000 (w : World) : (Instr.makeSlice 25 (.int .i64 1000) (.int .i64 1000)).run Try.prog w = .ok (.slice (some ⟨w.heap.size, 0, none⟩) 1000 1000) (w.alloc (.cells nrow 3)) := by
  obtain ⟨i0, hi, hz0, hz1, hz2⟩ := info_parts infoI
  have := run_make w 25 3 i0 _ Try.underlying25 hi hz0 .i64 .i64 1000 1000 (by omega) (by omega) (by rw [hz2]; omega) (by omega)
  rw [show (1000 : Int).toNat = 1000 from rfl, hz1, made_nrow] at this
  exact this
theorem reads_new (l : List Int) (w : World) (cs : Array Value) (hc : cs = (l.map (Value.int .i64)).toArray) (hm : l.length ≤ 1000000) : ReadsInt (w.alloc (.cells cs 3)) .i64 (some ⟨w.heap.size, 0, none⟩) l.length l := by
  refine ⟨rfl, by omega, fun _ => ⟨_, rfl, fun j hj => ?_⟩⟩
  rw [add_plain, blk_cell (blk_new w _), hc]
  simp [List.getD_eq_getElem?_getD, hj]
theorem noughts_span : ∀ n ∈ noughts, -9223372036854775808 ≤ n ∧ n ≤ 9223372036854775807 := by
  intro n hn
  have := noughts_in n hn
  unfold inB at this
  omega
set_option maxHeartbeats 8000000 in
set_option maxRecDepth 100000 in
theorem awake_any (w : World) : Calls Try.prog 12 #[] w fun e w' => e = .returned (.bool true) ∧ Below w.heap.size w w' := by
  have hmk := make1000
  have HEN := Aside0.mk (Encode_any noughts (some ⟨w.heap.size, 0, none⟩) 1000 (w.alloc (.cells nrow 3)) (reads_new noughts w nrow rfl (by rw [noughts_len]; decide)) (by rw [noughts_len]; decide) noughts_span)
  rw [enc_noughts, noughts_len] at HEN
  have HB0 := Aside0.mk ((Below.refl w.heap.size w).alloc (Nat.le_refl _) (.cells nrow 3))
  have HSZ := Aside0.mk noughts_size
  have hsz := noughts_size
  have HDE := Aside0.mk (dec_noughts ⟨#[120]⟩)
  generalize finishS (runS noughts).e = S at HEN HSZ HDE hsz
  have HS2 : Aside0 ((S ++ (⟨#[120]⟩ : ByteArray)).size ≤ 9223372036854775807) := ⟨by
    rw [ByteArray.size_append]
    have : (⟨#[120]⟩ : ByteArray).size = 1 := rfl
    omega⟩
  have hcat : S.size + (⟨#[120]⟩ : ByteArray).size ≤ 9223372036854775807 := by
    have : (⟨#[120]⟩ : ByteArray).size = 1 := rfl
    omega
  go_enter Try.func12, Try.ntmps12
  go_wp2_with fail
  with_reducible refine HEN.out.mono ?_
  rintro e w1 ⟨rfl, hB⟩
  have HB1 := Aside0.mk (HB0.out.trans (hB.mono HB0.out.size))
  clear hB HB0 HEN hmk
  have HDA := Aside0.mk (Decode_any (S ++ (⟨#[120]⟩ : ByteArray)) HS2.out 1000 w1)
  rw [HDE.out] at HDA
  go_wp2_with fail
  with_reducible refine HDA.out.mono ?_
  rintro e w2 ⟨v, rfl, hG, hB⟩
  have HB2 := Aside0.mk (HB1.out.trans (hB.mono HB1.out.size))
  have HG := Aside0.mk hG
  clear hG hB HB1 HDA
  obtain ⟨A, c, rfl, hc, hC⟩ := HG.out.C
  rw [noughts_len] at hc hC ⊢
  have HC := Aside0.mk hC
  clear hc hC HG
  go_wp2_with fail
  with_reducible refine (Fold_any (-2) (by decide) (by decide) w2).mono ?_
  rw [show foldM (-2) = 3 by decide +kernel]
  rintro e w3 ⟨rfl, hd3⟩
  go_wp2_with fail
  with_reducible refine (Unfold_any 4 (by decide) (by decide) w3).mono ?_
  rw [show unfoldM 4 = 2 by decide +kernel]
  rintro e w4 ⟨rfl, hd4⟩
  have HB4 : Aside0 (Below w.heap.size w w4) := ⟨(HB2.out.trans (hd3.below.mono HB2.out.size)).trans (hd4.below.mono (Nat.le_trans HB2.out.size hd3.below.size))⟩
  have hC4 : Kd.C (Kd.int .i64) w4 A 1000 noughts := Kd.C_below (Kd.C_below HC.out hd3.below) hd4.below
  obtain ⟨ad, rfl, hx⟩ := (Kd.reads_of_C (d := (0 : Int)) (enc := Value.int .i64) hC4).at_ 999 (by decide) (by decide)
  have hz : rdOf 0 noughts 999 = 0 := by simp [rdOf, noughts]
  rw [hz, show (999 : Int).toNat = 999 from rfl] at hx
  clear hd3 hd4 HB2 HC hC4 hz
  have hx2 : w4.cell? { block := ad.block, off := ad.off + 999 } = some (.int .i64 0) := hx
  clear hx
  go_wp2
  go_ret
  exact ⟨rfl, HB4.out⟩
end Go.Proofs.Ytoologbaoifheaa.Hand
