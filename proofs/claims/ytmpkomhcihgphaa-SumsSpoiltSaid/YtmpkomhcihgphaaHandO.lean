/- Contracts of layer 3, proved by hand: SumsSpoilt, the loop. -/
import Derived.Test.YtmpkomhcihgphaaHandN
import Derived.Deep.RegionHeld3
namespace Go.Proofs.Ytmpkomhcihgphaa.Hand
open Go.RowKit Go.Proofs.Ytmpkomhcihgphaa.Q Go.Proofs.Ytmpkomhcihgphaa.Math Go.Proofs.YtmpkomhcihgphaaW.PrintWords Go.Proofs.YtmpkomhcihgphaaW.PrintLast Go.Proofs.YtmpkomhcihgphaaW.PrintMore
set_option linter.unusedVariables false
set_option linter.unusedSimpArgs false
theorem toList_size (s : ByteArray) : s.toList.length = s.size := by
  rw [ByteArray.toList_eq]
  simp
set_option maxHeartbeats 4000000 in
set_option maxRecDepth 100000 in
theorem Spoilt_hard (s : ByteArray) (a c : Int) (w : World) (h0 : 0 < s.size) (hs : s.size ≤ 140737488351232) (c0 : 0 < c) (c1 : c < 256) (a0 : -9223372036854775808 ≤ a) (a1 : a ≤ 9223372036854775807) :
    Calls Try.prog 5 #[.string s, .int .i64 a, .int .u8 c] w fun e w' => e = .returned (.bool true) ∧ Below w.heap.size w w' := by
  have hcv := fun W : World => Lib.run_convert_string_bytes (P := Try.prog) W 9 33 5 s Try.underlying9 Try.underlying33 Try.underlying5
  obtain ⟨j, hj, hjl⟩ : ∃ j : Nat, (wrap64 (a.tmod (s.size : Int) + (s.size : Int))).tmod (s.size : Int) = (j : Int) ∧ j < s.size := by
    have h1 := Int.tmod_lt_of_pos a (show (0 : Int) < (s.size : Int) by omega)
    have h2 : -(s.size : Int) < a.tmod (s.size : Int) := Int.lt_tmod_of_pos a (by omega)
    rw [Math.wrap_id _ (by omega) (by omega)]
    have h3 := Int.tmod_lt_of_pos (a.tmod (s.size : Int) + (s.size : Int)) (show (0 : Int) < (s.size : Int) by omega)
    have h4 := Int.tmod_nonneg (s.size : Int) (show 0 ≤ a.tmod (s.size : Int) + (s.size : Int) by omega)
    exact ⟨((a.tmod (s.size : Int) + (s.size : Int)).tmod (s.size : Int)).toNat, by omega, by omega⟩
  obtain ⟨k, hcap⟩ : ∃ k, grownCap w s.size 0 5 = k := ⟨_, rfl⟩
  have hrow := BRow.start (w := w) s (by unfold maxLen; omega)
  rw [hcap] at hrow
  have hbel := bytes_below (Below.refl w.heap.size w) (Nat.le_refl _) 5 s
  obtain ⟨w1, hw1⟩ : ∃ w1, Lib.bytesWorld w 5 s = w1 := ⟨_, rfl⟩
  rw [hw1] at hrow hbel
  have cj := hrow.cell j hjl
  have fj := hrow.frozen j hjl
  obtain ⟨x, hx⟩ : ∃ x, bt s (j : Nat) = x := ⟨_, rfl⟩
  rw [hx] at cj
  have hrow2 := hrow.set j (Go.bits .xor .u8 x c)
  rw [← hx] at hrow2
  have hbel2 : Below w.heap.size w (w1.setCell ⟨w.heap.size, j, none⟩ (.int .u8 (Go.bits .xor .u8 x c))) := hbel.setCell (Nat.le_refl _) _
  have HROW := Aside0.mk hrow2
  have HBEL := Aside0.mk hbel2
  have HX := Aside0.mk hx
  have HJL := Aside0.mk hjl
  have i0 : (0 : Int) ≤ (j : Int) := by omega
  have i1 : (j : Int) < (s.size : Int) := by omega
  have c00 : ¬ c = 0 := by omega
  have hne : ¬ s.toList = [] := by
    intro h
    have h2 : s.toList.length = 0 := by rw [h]; rfl
    rw [toList_size] at h2
    omega
  have hne2 : s.toList.isEmpty = false := by
    cases h : s.toList with
    | nil => exact absurd h hne
    | cons _ _ => rfl
  have hc2 : (c == 0) = false := by simp [c00]
  clear hrow hrow2 hbel hbel2 hx hjl
  go_enter Try.func5, Try.ntmps5
  go_wp2_with fail
  refine (lacquerlaw03_kinds.calls [8, 16, 32, 33] _ rfl).mono ?_
  rintro e w2 ⟨v0, rfl, hR, hB⟩
  obtain ⟨A, cc, rfl, hl, hC⟩ := Kd.R_reads hR
  have HC := Aside0.mk (Kd.reads_of_C (d := (0 : Int)) (enc := Value.int .i64) hC)
  have HROW2 := Aside0.mk (HROW.out.below (by rw [HX.out]; exact hB))
  have HB2 := Aside0.mk (HBEL.out.trans (hB.mono HBEL.out.size))
  clear hR hB hC hl
  go_wp2
  go_loopw [9] (fun i wr => ∃ d : Nat, d ≤ 4 ∧ i = .int .i64 d ∧ Aside0 (Below w2.heap.size w2 wr)) (fun i _ => 4 - (intOf i).toNat)
  case atStart => exact ⟨0, by omega, rfl, ⟨Below.refl _ _⟩⟩
  case round =>
    obtain ⟨d, hd, rfl, HB⟩ := hrel
    by_cases hlt : d < 4
    · have i3 : (d : Int) < 4 := by omega
      obtain ⟨kk, hkk, hkd⟩ : ∃ kk, rdOf 0 [8, 16, 32, 33] (d : Int) = kk ∧ isKind kk := by
        refine ⟨_, rfl, ?_⟩
        rcases d with _ | _ | _ | _ | d
        · exact .inl rfl
        · exact .inr (.inl rfl)
        · exact .inr (.inr (.inl rfl))
        · exact .inr (.inr (.inr rfl))
        · omega
      obtain ⟨ad, rfl, hcell⟩ := HC.out.at_ (d : Int) (by omega) i3
      rw [hkk, Int.toNat_natCast] at hcell
      have hcc : ByteArray.size (Math.turned s j c) = s.size := by
        unfold Math.turned
        rw [Math.size_nums, List.length_set, bytesOf_length]
      have hne3 : sumF kk s ≠ sumF kk (Math.turned s j c) := by
        have e : c = int8 (BitVec.ofNat 8 c.toNat) := by
          unfold int8
          rw [BitVec.toNat_ofNat]
          omega
        rw [e]
        refine Math.sum_apart kk hkd s j (by rw [bytes_length]; exact HJL.out) _ ?_
        intro e2
        rw [e2] at e
        unfold int8 at e
        simp at e
        omega
      have HK : Aside0 (∀ W : World, Below w2.heap.size w2 W → W.cell? (ad.add d) = some (.int .i64 kk) ∧ (convert 33 9 (.slice (some ⟨w.heap.size, 0, none⟩) s.size k)).run Try.prog W = .ok (.string (Math.turned s j c)) W) := ⟨fun W hW =>
        ⟨pw_cell_below hW hcell, BRow.turned s j c (HROW2.out.below hW) Try.prog Try.underlying33 Try.underlying5 Try.underlying9⟩⟩
      have HN := Aside0.mk hne3
      clear hkk hcell hne3
      obtain ⟨d0, d1⟩ := HK.out wr.drew (below_drew HB.out)
      have hB4 : Below w2.heap.size w2 wr.drew := below_drew HB.out
      have o1 := of_calls kk hkd s (by omega)
      have o2 := of_calls kk hkd (Math.turned s j c) (by omega)
      obtain ⟨y1, hy1⟩ : ∃ y, sumF kk s = y := ⟨_, rfl⟩
      obtain ⟨y2, hy2⟩ : ∃ y, sumF kk (Math.turned s j c) = y := ⟨_, rfl⟩
      rw [hy1] at o1
      rw [hy2] at o2
      have hb1 : (y1 == y2) = false := by
        have := HN.out
        rw [hy1, hy2] at this
        simpa using this
      have O1 := Aside0.mk o1
      have O2 := Aside0.mk o2
      clear hy1 hy2 o1 o2
      generalize Math.turned s j c = tt at d1 HK O2 hcc HN
      clear HN
      go_wp2
      go_region_held3 (fun W => W.cell? (ad.add d) = some (.int .i64 kk) ∧ (convert 33 9 (.slice (some ⟨w.heap.size, 0, none⟩) s.size k)).run Try.prog W = .ok (.string tt) W) (first | exact HK.out _ hB4 | exact HK.out _ HB.out)
        ((go_at_call 22; (first | (with_reducible refine (O1.out _).mono ?_) | (with_reducible refine (O2.out _).mono ?_)); rintro e w3 ⟨rfl, hB3⟩; have hB5 := hB4.trans (hB3.mono hB4.size); clear hB4; have hB4 := hB5; clear hB5))
      all_goals
        go_wp2
        go_roundw
        case rel => exact ⟨d + 1, by omega, by go_num, ⟨hB4⟩⟩
        case measure => simp [intOf]; omega
    · obtain rfl : d = 4 := by omega
      go_wp2_with fail
      refine (awake_any _).mono ?_
      rintro e w3 ⟨rfl, hB3⟩
      have HB3 := Aside0.mk (HB2.out.trans ((HB.out.trans (hB3.mono HB.out.size)).mono HB2.out.size))
      clear hB3
      go_wp2
      go_ret
      exact ⟨rfl, HB3.out⟩
theorem Spoilt_any (s : ByteArray) (a c : Int) (w : World) (hs : s.size ≤ 140737488351232) (c0 : 0 ≤ c) (c1 : c < 256) (a0 : -9223372036854775808 ≤ a) (a1 : a ≤ 9223372036854775807) :
    Calls Try.prog 5 #[.string s, .int .i64 a, .int .u8 c] w fun e w' => e = .returned (.bool true) ∧ Below w.heap.size w w' := by
  by_cases h0 : s.size = 0
  · refine Spoilt_easy s a c w (.inl ?_)
    obtain ⟨⟨l⟩⟩ := s
    have : l.length = 0 := h0
    rw [List.length_eq_zero_iff.1 this]
  · by_cases h1 : c = 0
    · exact Spoilt_easy s a c w (.inr h1)
    · exact Spoilt_hard s a c w (by omega) hs (by omega) c1 a0 a1
end Go.Proofs.Ytmpkomhcihgphaa.Hand
