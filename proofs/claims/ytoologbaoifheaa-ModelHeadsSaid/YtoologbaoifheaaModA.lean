/- Contracts of layer 19, proved by hand: counts. -/
import Derived.Test.YtoologbaoifheaaHandK
namespace Go.Proofs.Ytoologbaoifheaa.Hand
open Go.RowKit Go.Proofs.YtoologbaoifheaaW.PrintWords Go.Proofs.YtoologbaoifheaaW.PrintLast Go.Proofs.YtoologbaoifheaaW.PrintMore
set_option linter.unusedVariables false
set_option linter.unusedSimpArgs false

/-- Counts in block g: 42 numbers and their sum. -/
def cntCells (c : List Int) (s : Int) : Array Value := (c.map (Value.int .i64) ++ [Value.int .i64 s]).toArray
def CntAt (w : World) (g : Nat) (c : List Int) (s : Int) : Prop := w.heap[g]? = some (.cells (cntCells c s) 53 (0, 0)) ∧ c.length = 42
theorem CntAt.below {w w' : World} {g : Nat} {c : List Int} {s : Int} (h : CntAt w g c s) (hb : Below w.heap.size w w') : CntAt w' g c s := ⟨blk_below h.1 hb, h.2⟩
theorem CntAt.lt {w : World} {g : Nat} {c : List Int} {s : Int} (h : CntAt w g c s) : g < w.heap.size := blk_lt h.1
theorem CntAt.cell {w : World} {g : Nat} {c : List Int} {s : Int} (h : CntAt w g c s) (i : Nat) (hi : i < 42) : w.cell? ⟨g, i, none⟩ = some (.int .i64 (c.getD i 0)) := by
  refine (blk_cell h.1 i).trans ?_
  have h2 := h.2
  unfold cntCells
  rw [List.getElem?_toArray, List.getElem?_append_left (by rw [List.length_map]; omega), List.getElem?_map, List.getD_eq_getElem?_getD, List.getElem?_eq_getElem (by omega)]
  rfl
theorem CntAt.total {w : World} {g : Nat} {c : List Int} {s : Int} (h : CntAt w g c s) : w.cell? ⟨g, 42, none⟩ = some (.int .i64 s) := by
  refine (blk_cell h.1 42).trans ?_
  have h2 := h.2
  unfold cntCells
  rw [List.getElem?_toArray, List.getElem?_append_right (by rw [List.length_map]; omega), List.length_map, h2]
  rfl
theorem CntAt.frozen {w : World} {g : Nat} {c : List Int} {s : Int} (h : CntAt w g c s) (i : Nat) : w.frozen? ⟨g, i, none⟩ = false := blk_frozen h.1 i
theorem CntAt.set {w : World} {g : Nat} {c : List Int} {s : Int} (h : CntAt w g c s) (i : Nat) (hi : i < 42) (y : Int) : CntAt (w.setCell ⟨g, i, none⟩ (.int .i64 y)) g (c.set i y) s := by
  refine ⟨blk_put h.1 i _ ?_, by rw [List.length_set]; exact h.2⟩
  have h2 := h.2
  unfold cntCells
  apply Array.ext'
  simp
  rw [List.set_append_left _ _ (by rw [List.length_map]; omega)]
theorem CntAt.setSum {w : World} {g : Nat} {c : List Int} {s : Int} (h : CntAt w g c s) (y : Int) : CntAt (w.setCell ⟨g, 42, none⟩ (.int .i64 y)) g c y := by
  refine ⟨blk_put h.1 42 _ ?_, h.2⟩
  have h2 := h.2
  unfold cntCells
  apply Array.ext'
  simp
  rw [List.set_append_right _ _ (by rw [List.length_map]; omega), List.length_map, h2]
  rfl
/-- Small numbers, none below nought. -/
def Small (c : List Int) : Prop := ∀ i : Nat, 0 ≤ c.getD i 0 ∧ c.getD i 0 ≤ 65536
def belowC (c : List Int) : Nat → Int
  | 0 => 0
  | i + 1 => belowC c i + c.getD i 0
theorem belowC_in (c : List Int) (h : Small c) : ∀ i, 0 ≤ belowC c i ∧ belowC c i ≤ 65536 * i
  | 0 => ⟨Int.le_refl _, by simp [belowC]⟩
  | i + 1 => by
    have := belowC_in c h i
    have := h i
    simp only [belowC]
    omega
set_option maxHeartbeats 4000000 in
set_option maxRecDepth 100000 in
theorem span_any (c : List Int) (s : Int) (hs : Small c) (x : Nat) (hx : x < 42) (g : Nat) (w : World) (h : CntAt w g c s) :
    Calls Try.prog 21 #[.pointer (some ⟨g, 0, none⟩), .int .i64 x] w fun e w' => e = .returned (.tuple #[.int .i64 (belowC c x), .int .i64 (c.getD x 0)]) ∧ Drawn0 w w' := by
  have H := Aside0.mk h
  have HS := Aside0.mk hs
  have x0 : (0 : Int) ≤ (x : Int) := by omega
  have x1 : (x : Int) < 42 := by omega
  have x2 : (x : Int) ≤ 42 := by omega
  clear h hs
  go_enter Try.func21, Try.ntmps21
  go_wp2
  go_loopw [6, 15] (fun sv iv wr => ∃ i : Nat, i ≤ x ∧ iv = .int .i64 i ∧ sv = .int .i64 (belowC c i) ∧ wr = w) (fun _ iv _ => x - (intOf iv).toNat)
  case atStart => exact ⟨0, Nat.zero_le _, rfl, rfl, rfl⟩
  case round =>
    obtain ⟨i, hi, rfl, rfl, rfl⟩ := hrel
    by_cases hlt : i < x
    · have i0 : (0 : Int) ≤ (i : Int) := by omega
      have i1 : (i : Int) < (x : Int) := by omega
      have cI : wr.cell? ⟨g, i, none⟩ = some (.int .i64 (c.getD i 0)) := H.out.cell i (by omega)
      have hn : belowC c (i + 1) = belowC c i + c.getD i 0 := rfl
      have hb := belowC_in c HS.out i
      have hc := HS.out i
      have e1 : IntKind.i64.wrap (belowC c i + c.getD i 0) = belowC c (i + 1) := by rw [hn, IntKind.wrap_i64]; omega
      clear hn hb hc
      generalize belowC c i = b at e1 ⊢
      obtain ⟨b2, hb2⟩ : ∃ b2, belowC c (i + 1) = b2 := ⟨_, rfl⟩
      rw [hb2] at e1
      have HB2 := Aside0.mk hb2
      clear hb2
      generalize c.getD i 0 = y at e1 cI
      go_wp2
      go_roundw
      case rel => exact ⟨i + 1, by omega, by go_num, by rw [HB2.out], by trivial⟩
      case measure => simp [intOf]; omega
    · obtain rfl : i = x := by omega
      have cI : wr.cell? ⟨g, i, none⟩ = some (.int .i64 (c.getD i 0)) := H.out.cell i (by omega)
      go_wp2
      go_big_quiet (fail)
      go_wp2
      go_ret2
      exact ⟨rfl, ⟨nq, rfl⟩⟩
/-- In whose part a place lies: the class from x on. -/
def findC (c : List Int) : Nat → Nat → Int → Nat
  | 0, x, _ => x
  | k + 1, x, at_ => if c.getD x 0 ≤ at_ ∧ x < 41 then findC c k (x + 1) (at_ - c.getD x 0) else x
set_option maxHeartbeats 4000000 in
set_option maxRecDepth 100000 in
theorem find_any (c : List Int) (s : Int) (hs : Small c) (a : Int) (a0 : 0 ≤ a) (a1 : a ≤ 65536) (g : Nat) (w : World) (h : CntAt w g c s) :
    Calls Try.prog 49 #[.pointer (some ⟨g, 0, none⟩), .int .i64 a] w fun e w' => e = .returned (.int .i64 (findC c 42 0 a)) ∧ w = w' := by
  have H := Aside0.mk h
  have HS := Aside0.mk hs
  obtain ⟨r, hr⟩ : ∃ r, findC c 42 0 a = r := ⟨_, rfl⟩
  have HR := Aside0.mk hr
  rw [hr]
  clear h hs hr
  go_enter Try.func49, Try.ntmps49
  go_wp2
  go_loopg [1, 5] 42 (fun k av xv wr => ∃ (x : Nat) (b : Int), x + k = 42 ∧ x ≤ 41 ∧ 0 ≤ b ∧ b ≤ 65536 ∧ xv = .int .i64 x ∧ av = .int .i64 b ∧ wr = w ∧ Aside0 (findC c k x b = r))
  case atStart => exact ⟨0, a, rfl, by omega, a0, a1, rfl, rfl, rfl, HR⟩
  case round =>
    obtain ⟨x, b, hxk, hx41, b0, b1, rfl, rfl, rfl, HF⟩ := hrel
    cases gk with
    | zero => exact absurd hxk (by omega)
    | succ k =>
      have x0 : (0 : Int) ≤ (x : Int) := by omega
      have x1 : (x : Int) < 42 := by omega
      have cI : wr.cell? ⟨g, x, none⟩ = some (.int .i64 (c.getD x 0)) := H.out.cell x (by omega)
      have hc := HS.out x
      have hf : findC c (k + 1) x b = if c.getD x 0 ≤ b ∧ x < 41 then findC c k (x + 1) (b - c.getD x 0) else x := rfl
      have HF2 := Aside0.mk (hf.symm.trans HF.out)
      clear HF hf
      generalize c.getD x 0 = y at cI hc HF2
      by_cases hle : y ≤ b ∧ x < 41
      · obtain ⟨l1, l2⟩ := hle
        have l3 : (x : Int) < 41 := by omega
        have HF3 : Aside0 (findC c k (x + 1) (b - y) = r) := ⟨by have := HF2.out; rw [if_pos ⟨l1, l2⟩] at this; exact this⟩
        have e1 : IntKind.i64.wrap (b - y) = b - y := by rw [IntKind.wrap_i64]; omega
        go_wp2
        go_roundg k
        case measure => omega
        case rel => exact ⟨x + 1, b - y, by omega, by omega, by omega, by omega, by go_num, rfl, rfl, HF3⟩
      · have HF3 : Aside0 (x = r) := ⟨by have := HF2.out; rw [if_neg hle] at this; exact this⟩
        have hor : (¬ y ≤ b) ∨ (y ≤ b ∧ ¬ (x : Int) < 41) := by omega
        clear hle
        rcases hor with l1 | ⟨l1, l3⟩
        · go_wp2
          go_ret
          rw [HF3.out]
          exact ⟨rfl, rfl⟩
        · go_wp2
          go_ret
          rw [HF3.out]
          exact ⟨rfl, rfl⟩
end Go.Proofs.Ytoologbaoifheaa.Hand
