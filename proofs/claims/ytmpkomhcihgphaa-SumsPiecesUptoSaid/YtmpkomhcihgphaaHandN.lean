/- Contracts of layer 3, proved by hand: SumsSpoilt. -/
import Derived.Test.YtmpkomhcihgphaaMathK
import Derived.Lib.ConvBytes
import Derived.Laws.BytesArg
namespace Go.Proofs.Ytmpkomhcihgphaa.Hand
open Go.RowKit Go.Proofs.Ytmpkomhcihgphaa.Q Go.Proofs.Ytmpkomhcihgphaa.Math Go.Proofs.YtmpkomhcihgphaaW.PrintWords Go.Proofs.YtmpkomhcihgphaaW.PrintLast Go.Proofs.YtmpkomhcihgphaaW.PrintMore
set_option linter.unusedVariables false
set_option linter.unusedSimpArgs false

/-- A row that came of a string by a conversion: its block bears the mark of such a row. -/
def BRow (w : World) (g c : Nat) (n : Nat) (f : Nat → Int) : Prop :=
  ∃ cur : Array Value, w.heap[g]? = some (.cells cur 5 (c, c + 1)) ∧ cur.size = c ∧ n ≤ c ∧ c ≤ maxLen ∧ ∀ j, j < n → cur[j]? = some (.int .u8 (f j))
theorem BRow.cell {w : World} {g c n : Nat} {f : Nat → Int} (h : BRow w g c n f) (j : Nat) (hj : j < n) : w.cell? ⟨g, j, none⟩ = some (.int .u8 (f j)) := by
  obtain ⟨cur, hb, _, _, _, hc⟩ := h
  simp [World.cell?, hb, hc j hj]
theorem BRow.frozen {w : World} {g c n : Nat} {f : Nat → Int} (h : BRow w g c n f) (j : Nat) (hj : j < n) : w.frozen? ⟨g, j, none⟩ = false := by
  obtain ⟨cur, hb, _, hn, _, hc⟩ := h
  simp [World.frozen?, hb]
  omega
theorem BRow.set {w : World} {g c n : Nat} {f : Nat → Int} (h : BRow w g c n f) (i : Nat) (v : Int) : BRow (w.setCell ⟨g, i, none⟩ (.int .u8 v)) g c n (fun j => if j = i then v else f j) := by
  obtain ⟨cur, hb, hs, hn, hm, hc⟩ := h
  refine ⟨cur.setIfInBounds i (.int .u8 v), ?_, by simpa using hs, hn, hm, fun j hj => ?_⟩
  · simp [World.setCell, Array.getElem?_modify, hb]
  · rw [Array.getElem?_setIfInBounds]
    by_cases e : i = j
    · subst e
      simp; omega
    · rw [if_neg e, hc j hj]
      simp [show ¬ j = i from fun h => e h.symm]
theorem BRow.below {w w' : World} {g c n : Nat} {f : Nat → Int} (h : BRow w g c n f) (hb : Below w.heap.size w w') : BRow w' g c n f := by
  obtain ⟨cur, h1, h2⟩ := h
  exact ⟨cur, blk_below h1 hb, h2⟩
theorem BRow.mono {w : World} {g c n : Nat} {f f' : Nat → Int} (h : BRow w g c n f) (hf : ∀ j, j < n → f j = f' j) : BRow w g c n f' := by
  obtain ⟨cur, hb, hs, hn, hm, hc⟩ := h
  exact ⟨cur, hb, hs, hn, hm, fun j hj => by rw [hc j hj, hf j hj]⟩
theorem BRow.start {w : World} (s : ByteArray) (hs : s.size ≤ maxLen) : BRow (Lib.bytesWorld w 5 s) w.heap.size (grownCap w s.size 0 5) s.size (fun j => bt s (j : Nat)) := by
  have hsz : (Lib.bytesCells w 5 s).size = grownCap w s.size 0 5 := by
    have := grownCap_ge w s.size 0 5
    simp [Lib.bytesCells]
    omega
  refine ⟨Lib.bytesCells w 5 s, ?_, hsz, grownCap_ge _ _ _ _, grownCap_le_maxLen _ _ _ _ hs, fun j hj => ?_⟩
  · have := Lib.bytesWorld_at_new w 5 s
    rwa [hsz] at this
  · have := Lib.bytesWorld_cell w 5 s j hj
    rw [World.cell?, Lib.bytesWorld_at_new] at this
    have e : (s.data.toList.getD j 0).toNat = bt s (j : Nat) := by
      simp [bt, List.getD_eq_getElem?_getD, hj]
      rfl
    show (Lib.bytesCells w 5 s)[j]? = some (.int .u8 (bt s (j : Nat)))
    rw [← e]
    simpa using this
theorem BRow.conv (P : Program) {wr : World} {g c n : Nat} {f : Nat → Int} (hs : P.underlying 33 = some (.slice 5)) (he : P.underlying 5 = some (.int .u8)) (hd : P.underlying 9 = some .string) (h : BRow wr g c n f) :
    (convert 33 9 (.slice (some ⟨g, 0, none⟩) n c)).run P wr = .ok (.string (strOfNums ((List.range n).map f))) wr :=
  run_convert_bytes_arg wr 33 5 hs he g 0 n c _ (by simp) (fun i hi => by
    rw [Nat.zero_add, h.cell i hi]
    simp [List.getD_eq_getElem?_getD, hi]) 9 hd
theorem BRow.turned (s : ByteArray) (j : Nat) (c : Int) {w : World} {g k : Nat} (h : BRow w g k s.size (fun i => if i = j then Go.bits .xor .u8 (bt s (j : Nat)) c else bt s (i : Nat))) (P : Program) (hs : P.underlying 33 = some (.slice 5)) (he : P.underlying 5 = some (.int .u8)) (hd : P.underlying 9 = some .string) :
    (convert 33 9 (.slice (some ⟨g, 0, none⟩) s.size k)).run P w = .ok (.string (Math.turned s j c)) w := by
  rw [h.conv P hs he hd]
  have e : (List.range s.size).map (fun i => if i = j then Go.bits .xor .u8 (bt s (j : Nat)) c else bt s (i : Nat)) = (bytesOf s).set j (Go.bits .xor .u8 (bt s (j : Nat)) c) := by
    apply List.ext_getElem
    · simp [bytesOf_length]
    · intro i h1 h2
      have hi : i < s.size := by simpa using h1
      rw [List.getElem_map, List.getElem_range, List.getElem_set]
      by_cases e : j = i
      · subst e; simp
      · rw [if_neg e, if_neg (fun q => e q.symm), ← rd_bytesOf]
        simp [rd, List.getD_eq_getElem?_getD, bytesOf_length, hi]
  rw [e]
  rfl
theorem of_kind (k : Int) (hk : isKind k) (s : ByteArray) (hs : s.size ≤ 140737488355328) : lacquerlaw03_of.f k s = some (sumF k s) := by
  unfold lacquerlaw03_of.f sums_Crc8.f sums_Crc16.f sums_Ogg.f sums_Crc32.f
  rcases hk with rfl | rfl | rfl | rfl
  · rw [if_pos rfl, of_b 8 s (by decide) hs _ rfl]; rfl
  · rw [if_neg (by decide), if_pos rfl, of_b 16 s (by decide) hs _ rfl]; rfl
  · rw [if_neg (by decide), if_neg (by decide), if_pos rfl, of_b 32 s (by decide) hs _ rfl]; rfl
  · rw [if_neg (by decide), if_neg (by decide), if_neg (by decide), of_b 33 s (by decide) hs _ rfl]; rfl
theorem of_calls (k : Int) (hk : isKind k) (s : ByteArray) (hs : s.size ≤ 140737488355328) (w : World) :
    Calls Try.prog 22 #[.int .i64 k, .string s] w fun e w' => e = .returned (.int .i64 (sumF k s)) ∧ Below w.heap.size w w' :=
  lacquerlaw03_of.calls k s _ w (of_kind k hk s hs)
set_option maxHeartbeats 1000000 in
set_option maxRecDepth 100000 in
theorem Spoilt_easy (s : ByteArray) (a c : Int) (w : World) (h : s = ⟨#[]⟩ ∨ c = 0) :
    Calls Try.prog 5 #[.string s, .int .i64 a, .int .u8 c] w fun e w' => e = .returned (.bool true) ∧ Below w.heap.size w w' := by
  rcases h with rfl | rfl
  · go_enter Try.func5, Try.ntmps5
    go_wp2_with fail
    refine (awake_any _).mono ?_
    rintro e w1 ⟨rfl, hB⟩
    have HB := Aside0.mk hB
    clear hB
    go_wp2
    go_ret
    exact ⟨rfl, HB.out⟩
  · by_cases h0 : s = ⟨#[]⟩
    · subst h0
      go_enter Try.func5, Try.ntmps5
      go_wp2_with fail
      refine (awake_any _).mono ?_
      rintro e w1 ⟨rfl, hB⟩
      have HB := Aside0.mk hB
      clear hB
      go_wp2
      go_ret
      exact ⟨rfl, HB.out⟩
    · go_enter Try.func5, Try.ntmps5
      go_wp2_with fail
      all_goals
        refine (awake_any _).mono ?_
        rintro e w1 ⟨rfl, hB⟩
        have HB := Aside0.mk hB
        clear hB
        go_wp2
        go_ret
        exact ⟨rfl, HB.out⟩
end Go.Proofs.Ytmpkomhcihgphaa.Hand
