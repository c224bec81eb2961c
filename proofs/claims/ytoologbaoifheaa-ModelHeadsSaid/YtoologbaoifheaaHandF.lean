/- Contracts of layer 18, proved by hand: a decoder: Of, Peek, Used. -/
import Derived.Test.YtoologbaoifheaaHandE
namespace Go.Proofs.Ytoologbaoifheaa.Hand
open Go.RowKit Go.Proofs.Ytoologbaoifheaa.Q Go.Proofs.YtoologbaoifheaaW.PrintWords Go.Proofs.YtoologbaoifheaaW.PrintLast Go.Proofs.YtoologbaoifheaaW.PrintMore
set_option linter.unusedVariables false
set_option linter.unusedSimpArgs false

structure Dec where
  s : ByteArray
  pos : Int
  code : Int
  width : Int
  bad : Bool
def decCells (d : Dec) : Array Value := #[.string d.s, .int .i64 d.pos, .int .u32 d.code, .int .u32 d.width, .bool d.bad]
/-- A decoder that lies in block g. -/
def DecAt (w : World) (g : Nat) (d : Dec) : Prop := w.heap[g]? = some (.cells (decCells d) 89 (0, 0))
theorem DecAt.below {w w' : World} {g : Nat} {d : Dec} (h : DecAt w g d) (hb : Below w.heap.size w w') : DecAt w' g d := blk_below h hb
theorem DecAt.cell {w : World} {g : Nat} {d : Dec} (h : DecAt w g d) (j : Nat) : w.cell? ⟨g, j, none⟩ = (decCells d)[j]? := blk_cell h j
theorem DecAt.set {w : World} {g : Nat} {d d' : Dec} (h : DecAt w g d) (j : Nat) (u : Value) (hs : (decCells d).setIfInBounds j u = decCells d') : DecAt (w.setCell ⟨g, j, none⟩ u) g d' := blk_put h j u hs
/-- From w on to w' a decoder in block g has been turned, and nothing else. -/
structure Turned (B g : Nat) (w w' : World) : Prop where
  below : Below B w w'
  kept : Kept w w' (fun k => k = g)
theorem Turned.refl (B g : Nat) (w : World) : Turned B g w w := ⟨Below.refl _ _, Kept.refl _ _⟩
theorem Turned.trans {B g : Nat} {w w1 w2 : World} (h : Turned B g w w1) (k : Turned B g w1 w2) : Turned B g w w2 := ⟨h.below.trans k.below, h.kept.then_ k.kept (fun _ h => .inl h)⟩
theorem Turned.set {B g : Nat} {w w1 : World} (h : Turned B g w w1) (hB : B ≤ g) (j : Nat) (u : Value) : Turned B g w (w1.setCell ⟨g, j, none⟩ u) := ⟨h.below.setCell hB u, h.kept.setCell (p := ⟨g, j, none⟩) (.inl rfl) u⟩
theorem Turned.drewN {B g : Nat} {w w1 : World} (h : Turned B g w w1) (m : Nat) : Turned B g w (w1.drewN m) := ⟨pw_below_drewN h.below m, h.kept.drewN m⟩
theorem Turned.drawn {B g : Nat} {w w1 w2 : World} (h : Turned B g w w1) (k : Drawn0 w1 w2) : Turned B g w w2 := by
  obtain ⟨m, rfl⟩ := k
  exact h.drewN m
/-- What a place in the code is. -/
def peekD (d : Dec) (t : Int) : Int × Int := if t < 1 ∨ 65536 < t then (0, 1) else if d.bad = true then (0, 2) else (if d.code / (d.width / t) ≤ t - 1 then d.code / (d.width / t) else t - 1, 0)
/-- A decoder as its calls leave it. -/
structure GoodD (d : Dec) : Prop where
  code0 : 0 ≤ d.code
  code1 : d.code < 4294967296
  wid0 : d.bad = false → 16777216 ≤ d.width
  wid1 : d.width < 4294967296
  pos0 : 0 ≤ d.pos
  pos1 : d.pos ≤ d.s.size
set_option maxHeartbeats 4000000 in
set_option maxRecDepth 100000 in
theorem Peek_nil (t : Int) (w : World) : Calls Try.prog 36 #[.pointer none, .int .i64 t] w fun e w' => e = .returned (.tuple #[.int .i64 0, .int .i64 1]) ∧ Drawn0 w w' := by
  have hup := Try.underlying67
  go_enter Try.func36, Try.ntmps36
  go_wp2
  go_ret2
  exact ⟨rfl, Drawn0.refl _⟩
set_option maxHeartbeats 4000000 in
set_option maxRecDepth 100000 in
theorem Peek_any (d : Dec) (t : Int) (g : Nat) (w : World) (h : DecAt w g d) (hg : GoodD d) :
    Calls Try.prog 36 #[.pointer (some ⟨g, 0, none⟩), .int .i64 t] w fun e w' => e = .returned (.tuple #[.int .i64 (peekD d t).1, .int .i64 (peekD d t).2]) ∧ Drawn0 w w' := by
  have hup := Try.underlying67
  have c2 : w.cell? ⟨g, 2, none⟩ = some (.int .u32 d.code) := h.cell 2
  have c3 : w.cell? ⟨g, 3, none⟩ = some (.int .u32 d.width) := h.cell 3
  have c4 : w.cell? ⟨g, 4, none⟩ = some (.bool d.bad) := h.cell 4
  clear h
  by_cases ht : t < 1 ∨ 65536 < t
  · have hp : peekD d t = (0, 1) := by unfold peekD; rw [if_pos ht]
    have HP := Aside0.mk hp
    clear hp
    rcases ht with ht | ht
    · go_enter Try.func36, Try.ntmps36
      go_wp2
      go_ret2
      rw [HP.out]
      exact ⟨rfl, Drawn0.refl _⟩
    · have : ¬ t < 1 := by omega
      go_enter Try.func36, Try.ntmps36
      go_wp2
      go_ret2
      rw [HP.out]
      exact ⟨rfl, Drawn0.refl _⟩
  · have t1 : 1 ≤ t := by omega
    have t2 : t ≤ 65536 := by omega
    cases hb : d.bad with
    | true =>
      have hp : peekD d t = (0, 2) := by unfold peekD; rw [if_neg ht, if_pos hb]
      have HP := Aside0.mk hp
      rw [hb] at c4
      clear hp hb ht
      go_enter Try.func36, Try.ntmps36
      go_wp2
      go_ret2
      rw [HP.out]
      exact ⟨rfl, Drawn0.refl _⟩
    | false =>
      have hp : peekD d t = (if d.code / (d.width / t) ≤ t - 1 then d.code / (d.width / t) else t - 1, 0) := by unfold peekD; rw [if_neg ht, if_neg (by rw [hb]; decide)]
      rw [hb] at c4
      have hw := hg.wid0 hb
      have hw1 := hg.wid1
      have k0 := hg.code0
      have k1 := hg.code1
      have r0 : 1 ≤ d.width / t := by
        have := Int.ediv_le_ediv (show (0 : Int) < t by omega) (show t ≤ d.width by omega)
        rwa [Int.ediv_self (by omega)] at this
      have r1 : ¬ d.width / t = 0 := by omega
      have r3 : d.width / t < 4294967296 := by
        have := Int.ediv_le_self (a := d.width) t (by omega)
        omega
      have q0 : 0 ≤ d.code / (d.width / t) := Int.ediv_nonneg k0 (by omega)
      have q1 : d.code / (d.width / t) < 4294967296 := by
        have := Int.ediv_le_self (a := d.code) (d.width / t) k0
        omega
      clear hb ht hg
      by_cases hq : d.code / (d.width / t) ≤ t - 1
      · rw [if_pos hq] at hp
        have HP := Aside0.mk hp
        clear hp
        go_enter Try.func36, Try.ntmps36
        go_wp2
        go_quiet (fail)
        go_wp2
        all_goals
          first
          | (exfalso; omega)
          | (go_ret2
             rw [HP.out]
             exact ⟨rfl, by repeat (first | exact Drawn0.refl _ | apply Drawn0.step)⟩)
      · rw [if_neg hq] at hp
        have HP := Aside0.mk hp
        clear hp
        go_enter Try.func36, Try.ntmps36
        go_wp2
        go_quiet (fail)
        go_wp2
        all_goals
          first
          | (exfalso; omega)
          | (go_ret2
             rw [HP.out]
             exact ⟨rfl, by repeat (first | exact Drawn0.refl _ | apply Drawn0.step)⟩)
set_option maxHeartbeats 4000000 in
set_option maxRecDepth 100000 in
theorem Used_nil (w : World) : Calls Try.prog 38 #[.pointer none] w fun e w' => e = .returned (.int .i64 0) ∧ Drawn0 w w' := by
  have hup := Try.underlying67
  go_enter Try.func38, Try.ntmps38
  go_wp2
  go_ret
  exact ⟨rfl, Drawn0.refl _⟩
theorem Used_any (d : Dec) (g : Nat) (w : World) (h : DecAt w g d) : Calls Try.prog 38 #[.pointer (some ⟨g, 0, none⟩)] w fun e w' => e = .returned (.int .i64 d.pos) ∧ Drawn0 w w' := by
  have hup := Try.underlying67
  have c1 : w.cell? ⟨g, 1, none⟩ = some (.int .i64 d.pos) := h.cell 1
  clear h
  go_enter Try.func38, Try.ntmps38
  go_wp2
  go_ret
  exact ⟨rfl, Drawn0.refl _⟩
/-- Eight bits behind a number's. -/
theorem or_low : ∀ (x b : Int), 0 ≤ x → x < 16777216 → 0 ≤ b → b < 256 → Go.bits .or .u32 (x * 256) b = x * 256 + b := by
  intro x b h0 h1 h2 h3
  obtain ⟨n, rfl⟩ := Int.eq_ofNat_of_zero_le h0
  obtain ⟨m, rfl⟩ := Int.eq_ofNat_of_zero_le h2
  have e : Go.bits .or .u32 ((n : Int) * 256) m = IntKind.u32.wrap ((BitVec.ofInt 32 ((n : Int) * 256) ||| BitVec.ofInt 32 m).toNat : Int) := rfl
  have e1 : (BitVec.ofInt 32 ((n : Int) * 256)).toNat = 2 ^ 8 * n := by rw [BitVec.toNat_ofInt]; omega
  have e2 : (BitVec.ofInt 32 (m : Int)).toNat = m := by rw [BitVec.toNat_ofInt]; omega
  rw [e, BitVec.toNat_or, e1, e2, ← Nat.two_pow_add_eq_or_of_lt (by omega), u32_wrap]
  omega
/-- A decoder of a text. -/
def ofD (s : ByteArray) : Dec := if s.size < 5 ∨ ¬ bt s 0 = 0 then ⟨s, 0, 0, 4294967295, true⟩ else ⟨s, 5, ((bt s 1 * 256 + bt s 2) * 256 + bt s 3) * 256 + bt s 4, 4294967295, false⟩
end Go.Proofs.Ytoologbaoifheaa.Hand
