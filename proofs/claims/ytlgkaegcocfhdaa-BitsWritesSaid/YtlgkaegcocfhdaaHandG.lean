/- Contracts of layer 1, proved by hand: a reader's Of, At, Left, peek, Get. -/
import Derived.Test.YtlgkaegcocfhdaaHandA
import Derived.Test.YtlgkaegcocfhdaaMathB
namespace Go.Proofs.Ytlgkaegcocfhdaa.Hand
open Go.RowKit Go.Proofs.YtlgkaegcocfhdaaW.PrintWords Go.Proofs.YtlgkaegcocfhdaaW.PrintLast Go.Proofs.YtlgkaegcocfhdaaW.PrintMore
set_option linter.unusedVariables false
set_option linter.unusedSimpArgs false

/-- From w on to w' the block g has been turned, and nothing else. -/
structure Turned (B g : Nat) (w w' : World) : Prop where
  below : Below B w w'
  kept : Kept w w' (fun k => k = g)
theorem Turned.refl (B g : Nat) (w : World) : Turned B g w w := ⟨Below.refl _ _, Kept.refl _ _⟩
theorem Turned.trans {B g : Nat} {w w1 w2 : World} (h : Turned B g w w1) (k : Turned B g w1 w2) : Turned B g w w2 := ⟨h.below.trans k.below, h.kept.then_ k.kept (fun _ h => .inl h)⟩
theorem Turned.set {B g : Nat} {w w1 : World} (h : Turned B g w w1) (hB : B ≤ g) (j : Nat) (u : Value) : Turned B g w (w1.setCell ⟨g, j, none⟩ u) := ⟨h.below.setCell hB u, h.kept.setCell (p := ⟨g, j, none⟩) (.inl rfl) u⟩
theorem Turned.drew {B g : Nat} {w w1 : World} (h : Turned B g w w1) : Turned B g w w1.drew := ⟨below_drew h.below, h.kept.drew⟩
theorem Turned.drewN {B g : Nat} {w w1 : World} (h : Turned B g w w1) (m : Nat) : Turned B g w (w1.drewN m) := ⟨pw_below_drewN h.below m, h.kept.drewN m⟩
theorem Turned.drawn {B g : Nat} {w w1 w2 : World} (h : Turned B g w w1) (k : Drawn0 w1 w2) : Turned B g w w2 := by
  obtain ⟨m, rfl⟩ := k
  exact h.drewN m
theorem Turned.new {B g : Nat} {w w1 w2 : World} (h : Turned B g w w1) (k : Below w1.heap.size w1 w2) (hB : B ≤ w1.heap.size) : Turned B g w w2 :=
  ⟨h.below.trans (k.mono hB), h.kept.below k⟩
/-- A reader in block g: its place, its text. -/
def RAt (w : World) (g : Nat) (s : ByteArray) (p : Nat) : Prop := w.heap[g]? = some (.cells #[.int .i64 p, .string s] 70 (0, 0))
theorem RAt.below {w w' : World} {g p : Nat} {s : ByteArray} (h : RAt w g s p) (hb : Below w.heap.size w w') : RAt w' g s p := blk_below h hb
theorem RAt.drawn {w w' : World} {g p : Nat} {s : ByteArray} (h : RAt w g s p) (k : Drawn0 w w') : RAt w' g s p := by
  obtain ⟨m, rfl⟩ := k
  exact h.below (pw_below_drewN (Below.refl _ _) m)
theorem RAt.lt {w : World} {g p : Nat} {s : ByteArray} (h : RAt w g s p) : g < w.heap.size := blk_lt h
theorem RAt.place {w : World} {g p : Nat} {s : ByteArray} (h : RAt w g s p) : w.cell? ⟨g, 0, none⟩ = some (.int .i64 p) := blk_cell h 0
theorem RAt.text {w : World} {g p : Nat} {s : ByteArray} (h : RAt w g s p) : w.cell? ⟨g, 1, none⟩ = some (.string s) := blk_cell h 1
theorem RAt.to {w : World} {g p q : Nat} {s : ByteArray} (h : RAt w g s p) : RAt (w.setCell ⟨g, 0, none⟩ (.int .i64 q)) g s q := blk_put h 0 _ rfl
set_option maxHeartbeats 1000000 in
theorem Of_any (s : ByteArray) (w : World) : Calls Try.prog 14 #[.string s] w fun e w' => e = .returned (.pointer (some ⟨w.heap.size, 0, none⟩)) ∧ w' = w.alloc (.cells #[.int .i64 0, .string s] 70) := by
  go_enter Try.func14, Try.ntmps14
  go_wp2
  go_ret
  exact ⟨rfl, rfl⟩
theorem of_at (s : ByteArray) (w : World) : RAt (w.alloc (.cells #[.int .i64 0, .string s] 70)) w.heap.size s 0 := blk_new w _
set_option maxHeartbeats 1000000 in
theorem At_nil (w : World) : Calls Try.prog 25 #[.pointer none] w fun e w' => e = .returned (.int .i64 0) ∧ Drawn0 w w' := by
  have hup := Try.underlying36
  go_enter Try.func25, Try.ntmps25
  go_wp2
  go_ret
  exact ⟨rfl, Drawn0.refl _⟩
set_option maxHeartbeats 1000000 in
theorem At_any (s : ByteArray) (p g : Nat) (w : World) (h : RAt w g s p) : Calls Try.prog 25 #[.pointer (some ⟨g, 0, none⟩)] w fun e w' => e = .returned (.int .i64 p) ∧ Drawn0 w w' := by
  have hup := Try.underlying36
  have c0 := h.place
  clear h
  go_enter Try.func25, Try.ntmps25
  go_wp2_with fail
  refine (at_any g _ _ c0).mono ?_
  rintro e w' ⟨rfl, rfl⟩
  go_wp2
  go_ret
  exact ⟨rfl, Drawn0.refl _⟩
set_option maxHeartbeats 1000000 in
theorem Left_nil (w : World) : Calls Try.prog 26 #[.pointer none] w fun e w' => e = .returned (.int .i64 0) ∧ Drawn0 w w' := by
  have hup := Try.underlying36
  go_enter Try.func26, Try.ntmps26
  go_wp2
  go_ret
  exact ⟨rfl, Drawn0.refl _⟩
set_option maxHeartbeats 2000000 in
theorem Left_any (s : ByteArray) (hs : s.size ≤ 281474976710656) (p g : Nat) (hp : p ≤ 8 * s.size) (w : World) (h : RAt w g s p) : Calls Try.prog 26 #[.pointer (some ⟨g, 0, none⟩)] w fun e w' => e = .returned (.int .i64 ((8 * s.size - p : Nat) : Int)) ∧ Drawn0 w w' := by
  have hup := Try.underlying36
  have c0 := h.place
  have c1 := h.text
  have e1 : IntKind.i64.wrap (8 * (s.size : Int)) = 8 * (s.size : Int) := by rw [IntKind.wrap_i64]; omega
  have e2 : IntKind.i64.wrap (8 * (s.size : Int) - (p : Int)) = ((8 * s.size - p : Nat) : Int) := by rw [IntKind.wrap_i64]; omega
  clear h
  go_enter Try.func26, Try.ntmps26
  go_wp2
  go_quiet (first | (go_at_call 38; exact Calls.quiet_of_same (at_still g _ _ (by exact c0))))
  go_wp2
  go_ret
  exact ⟨rfl, ⟨_, rfl⟩⟩
set_option maxHeartbeats 2000000 in
theorem peek_any (s : ByteArray) (p q g : Nat) (hq : q < 8 * s.size) (hs : s.size ≤ 281474976710656) (w : World) (h : RAt w g s p) : Calls Try.prog 39 #[.pointer (some ⟨g, 0, none⟩), .int .i64 q] w fun e w' => e = .returned (.int .u64 ((tb s q).toNat : Int)) ∧ Drawn0 w w' := by
  have hup := Try.underlying36
  have c1 := h.text
  obtain ⟨j, hj⟩ : ∃ j, q / 8 = j := ⟨_, rfl⟩
  obtain ⟨r, hr⟩ : ∃ r, q % 8 = r := ⟨_, rfl⟩
  have hjl : j < s.size := by omega
  have hb := peek_bit s q j r hjl hj hr
  generalize tb s q = one at hb ⊢
  have e4 : IntKind.u64.wrap (((s[j]'hjl).toNat : Int) / 2 ^ (7 - r)) = ((s[j]'hjl).toNat : Int) / 2 ^ (7 - r) := by
    have hlt : (s[j]'hjl).toNat < 256 := (s[j]'hjl).toNat_lt
    have e : ((s[j]'hjl).toNat : Int) / 2 ^ (7 - r) = (((s[j]'hjl).toNat / 2 ^ (7 - r) : Nat) : Int) := by simp
    have hle : (s[j]'hjl).toNat / 2 ^ (7 - r) ≤ (s[j]'hjl).toNat := Nat.div_le_self _ _
    rw [e]
    generalize (s[j]'hjl).toNat / 2 ^ (7 - r) = y at hle
    rw [u64_wrap]
    omega
  have e1 : (q : Int) / 8 = (j : Int) := by omega
  have e2 : (q : Int) % 8 = (r : Int) := by omega
  have e3 : (7 - (r : Int)).toNat = 7 - r := by omega
  have i0 : (0 : Int) ≤ (j : Int) := by omega
  have i1 : (j : Int) < (s.size : Int) := by omega
  have i2 : 0 ≤ 7 - (r : Int) := by omega
  have i3 : 7 - (r : Int) < 8 := by omega
  clear h hj hr
  go_enter Try.func39, Try.ntmps39
  go_wp2
  go_ret
  exact ⟨rfl, Drawn0.refl _⟩
end Go.Proofs.Ytlgkaegcocfhdaa.Hand
