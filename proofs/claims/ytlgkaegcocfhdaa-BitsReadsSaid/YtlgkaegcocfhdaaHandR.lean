/- Contracts of layer 1, proved by hand: the reference's reader in the reader's words. -/
import Derived.Test.YtlgkaegcocfhdaaMathE
import Derived.Test.YtlgkaegcocfhdaaHandO
namespace Go.Proofs.Ytlgkaegcocfhdaa.Hand
open Go.RowKit Go.Proofs.Ytlgkaegcocfhdaa.Q Go.Proofs.YtlgkaegcocfhdaaW.PrintWords Go.Proofs.YtlgkaegcocfhdaaW.PrintLast Go.Proofs.YtlgkaegcocfhdaaW.PrintMore
set_option linter.unusedVariables false
set_option linter.unusedSimpArgs false

/-- A reference's reader in block g: its text, its place. -/
def XAt (w : World) (g : Nat) (s : ByteArray) (p : Nat) : Prop := w.heap[g]? = some (.cells #[.string s, .int .i64 p] 40 (0, 0))
theorem XAt.lt {w : World} {g p : Nat} {s : ByteArray} (h : XAt w g s p) : g < w.heap.size := blk_lt h
theorem XAt.below {w w' : World} {g p : Nat} {s : ByteArray} (h : XAt w g s p) (hb : Below w.heap.size w w') : XAt w' g s p := blk_below h hb
theorem xr_ne {w : World} {g g2 p q : Nat} {s t : ByteArray} (hr : RAt w g s p) (hx : XAt w g2 t q) : g ≠ g2 := blk_ne (show w.heap[g]? = _ from hr) hx (by decide)
theorem XAt.turned {w w' : World} {B g g2 p q : Nat} {s t : ByteArray} (hx : XAt w g2 t q) (hr : RAt w g s p) (ht : Turned B g w w') : XAt w' g2 t q := blk_kept hx ht.kept (fun e => xr_ne hr hx e.symm)
theorem RAt.keep {w w' : World} {g g2 p q : Nat} {s t : ByteArray} (hr : RAt w g s p) (hx : XAt w g2 t q) (hk : KeepBut w w' g2 none) : RAt w' g s p := (hk.2 g hr.lt (xr_ne hr hx) (by simp)).trans hr
section
variable (s : ByteArray) (hs : s.size ≤ 281474976710656) (p : Nat) (hp : p ≤ 8 * s.size) (g : Nat) (w0 w : World) (hg : w0.heap.size ≤ g) (hx : XAt w g s p) (hB : Below w0.heap.size w0 w)
include hs hp hg hx hB
theorem XGet_any (k : Int) : Calls Try.prog 16 #[.pointer (some ⟨g, 0, none⟩), .int .i64 k] w fun e w' => e = .returned (.tuple #[.int .u64 (getR s p k).1, .int .i64 (getR s p k).2.1]) ∧ XAt w' g s (getR s p k).2.2 ∧ Below w0.heap.size w0 w' ∧ KeepBut w w' g none := by
  obtain ⟨n, h⟩ := (rget s hs p hp k).rounds
  exact (lacquerref01_R_Get.calls n g s p k _ _ _ _ w0 w ⟨hx, hg⟩ hB h).mono fun _ _ ⟨h1, h2, h3, h4⟩ => ⟨h1, h2.1, h3, h4⟩
theorem XSigned_any (k : Int) (hk : k ≤ 64) : Calls Try.prog 18 #[.pointer (some ⟨g, 0, none⟩), .int .i64 k] w fun e w' => e = .returned (.tuple #[.int .i64 (signedR s p k).1, .int .i64 (signedR s p k).2.1]) ∧ XAt w' g s (signedR s p k).2.2 ∧ Below w0.heap.size w0 w' ∧ KeepBut w w' g none := by
  obtain ⟨n, h⟩ := (rsigned s hs p hp k hk).rounds
  exact (lacquerref01_R_Signed.calls n g s p k _ _ _ _ w0 w ⟨hx, hg⟩ hB h).mono fun _ _ ⟨h1, h2, h3, h4⟩ => ⟨h1, h2.1, h3, h4⟩
theorem XUnary_any : Calls Try.prog 20 #[.pointer (some ⟨g, 0, none⟩)] w fun e w' => e = .returned (.tuple #[.int .i64 (unaryR s p).1, .int .i64 (unaryR s p).2.1]) ∧ XAt w' g s (unaryR s p).2.2 ∧ Below w0.heap.size w0 w' ∧ KeepBut w w' g none := by
  obtain ⟨n, h⟩ := (runary s hs p hp).rounds
  exact (lacquerref01_R_Unary.calls n g s p _ _ _ _ w0 w ⟨hx, hg⟩ hB h).mono fun _ _ ⟨h1, h2, h3, h4⟩ => ⟨h1, h2.1, h3, h4⟩
theorem XRice_any (k : Int) : Calls Try.prog 22 #[.pointer (some ⟨g, 0, none⟩), .int .i64 k] w fun e w' => e = .returned (.tuple #[.int .i64 (riceR s p k).1, .int .i64 (riceR s p k).2.1]) ∧ XAt w' g s (riceR s p k).2.2 ∧ Below w0.heap.size w0 w' ∧ KeepBut w w' g none := by
  obtain ⟨n, h⟩ := (rrice s hs p hp k).rounds
  exact (lacquerref01_R_Rice.calls n g s p k _ _ _ _ w0 w ⟨hx, hg⟩ hB h).mono fun _ _ ⟨h1, h2, h3, h4⟩ => ⟨h1, h2.1, h3, h4⟩
theorem XAlign_any : Calls Try.prog 24 #[.pointer (some ⟨g, 0, none⟩)] w fun e w' => e = .returned (.bool (alignR s p).1) ∧ XAt w' g s (alignR s p).2 ∧ Below w0.heap.size w0 w' ∧ KeepBut w w' g none := by
  obtain ⟨n, h⟩ := (ralign s hs p hp).rounds
  exact (lacquerref01_R_Align.calls n g s p _ _ _ w0 w ⟨hx, hg⟩ hB h).mono fun _ _ ⟨h1, h2, h3, h4⟩ => ⟨h1, h2.1, h3, h4⟩
end
set_option maxHeartbeats 2000000 in
theorem XLeft_any (s : ByteArray) (hs : s.size ≤ 281474976710656) (p g : Nat) (hp : p ≤ 8 * s.size) (w : World) (h : XAt w g s p) : Calls Try.prog 27 #[.pointer (some ⟨g, 0, none⟩)] w fun e w' => e = .returned (.int .i64 ((8 * s.size - p : Nat) : Int)) ∧ Drawn0 w w' := by
  have c0 : w.cell? ⟨g, 0, none⟩ = some (.string s) := blk_cell h 0
  have c1 : w.cell? ⟨g, 1, none⟩ = some (.int .i64 p) := blk_cell h 1
  have e1 : IntKind.i64.wrap ((s.size : Int) * 8) = (s.size : Int) * 8 := by rw [IntKind.wrap_i64]; omega
  have e2 : IntKind.i64.wrap ((s.size : Int) * 8 - (p : Int)) = ((8 * s.size - p : Nat) : Int) := by rw [IntKind.wrap_i64]; omega
  clear h
  go_enter Try.func27, Try.ntmps27
  go_wp2
  go_big_quiet (fail)
  go_wp2
  go_ret
  exact ⟨rfl, ⟨_, rfl⟩⟩
/-- Places stay within the text. -/
theorem signedR_at (s : ByteArray) (p : Nat) (k : Int) (hp : p ≤ 8 * s.size) : (signedR s p k).2.2 ≤ 8 * s.size := by
  unfold signedR
  split
  · exact hp
  · split
    · exact getR_at s p k hp
    · exact hp
theorem riceR_at (s : ByteArray) (p : Nat) (k : Int) (hp : p ≤ 8 * s.size) : (riceR s p k).2.2 ≤ 8 * s.size := by
  unfold riceR
  split
  · exact hp
  · split
    · split
      · exact getR_at s _ k (unaryR_at s p hp)
      · exact hp
    · exact hp
theorem alignR_at (s : ByteArray) (p : Nat) (hp : p ≤ 8 * s.size) : (alignR s p).2 ≤ 8 * s.size := by
  unfold alignR
  show p + (8 - p % 8) % 8 ≤ _
  omega
/-- A call that draws at most, from any world with the same blocks. -/
theorem quiet_at {f : FuncId} {args : Array Value} {v : Value} {w : World} (h : ∀ W : World, W.heap = w.heap → Calls Try.prog f args W fun e w' => e = .returned v ∧ Drawn0 W w') : ∀ W : World, W.heap = w.heap → Calls Try.prog f args W fun e w' => e = .returned v ∧ ∃ m, w' = W.drewN m :=
  fun W hW => (h W hW).mono fun _ _ ⟨h1, ⟨m, h2⟩⟩ => ⟨h1, ⟨m, h2⟩⟩
end Go.Proofs.Ytlgkaegcocfhdaa.Hand
