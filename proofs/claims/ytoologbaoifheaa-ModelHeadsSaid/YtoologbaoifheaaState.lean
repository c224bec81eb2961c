/- Words for states that lie in a block and hold a row of their own: what a call moves. -/
import Derived.Test.YtoologbaoifheaaProg
import Derived.WalkKit
import Derived.KernelRfl
import Derived.Below
import Derived.BigRegion
import Derived.Deep.LoopGhost
import Derived.Deep.Draws
import Derived.Deep.QuietTactic
import Derived.BigQuiet
import Derived.Deep.RegionLaw
import Derived.Deep.RegionHeld3
import Derived.StillTailTactics
import Derived.Lib.SliceRun
import Derived.Carry
import Derived.Deep.DeepCutAuto
import Derived.Laws.BytesArg
import Derived.Test.YtoologbaoifheaaWWords
import Derived.Test.YtoologbaoifheaaWMore
import Derived.Test.YtoologbaoifheaaWLast
import Derived.Test.YtoologbaoifheaaWKept
namespace Go.Proofs.Ytoologbaoifheaa.Hand
open Go.RowKit Go.Proofs.YtoologbaoifheaaW.PrintWords Go.Proofs.YtoologbaoifheaaW.PrintLast Go.Proofs.YtoologbaoifheaaW.PrintMore
set_option linter.unusedVariables false
set_option linter.unusedSimpArgs false

/-- The lowest bits of a number. -/
theorem and_mask_u64 (k : Nat) (hk : k ≤ 64) (x m : Int) (h0 : 0 ≤ x) (h1 : x < 18446744073709551616) (hm : m = 2 ^ k - 1) : Go.bits .and .u64 x m = x % 2 ^ k := by
  have e : Go.bits .and .u64 x m = IntKind.u64.wrap ((BitVec.ofInt 64 x &&& BitVec.ofInt 64 m).toNat : Int) := rfl
  have hp : (2 : Int) ^ k = ((2 ^ k : Nat) : Int) := by simp
  have hle : 2 ^ k ≤ 2 ^ 64 := Nat.pow_le_pow_right (by decide) hk
  have hpos := Nat.two_pow_pos k
  have e1 : (BitVec.ofInt 64 x).toNat = x.toNat := by rw [BitVec.toNat_ofInt]; omega
  have e2 : (BitVec.ofInt 64 m).toNat = 2 ^ k - 1 := by rw [BitVec.toNat_ofInt, hm, hp]; omega
  rw [e, BitVec.toNat_and, e1, e2, Nat.and_two_pow_sub_one_eq_mod, hp]
  have hlt : x.toNat % 2 ^ k < 2 ^ k := Nat.mod_lt _ hpos
  have e3 : ((x.toNat % 2 ^ k : Nat) : Int) = x % ((2 ^ k : Nat) : Int) := by
    rw [Int.natCast_emod, Int.toNat_of_nonneg h0]
  have e4 : IntKind.u64.wrap ((x.toNat % 2 ^ k : Nat) : Int) = ((x.toNat % 2 ^ k : Nat) : Int) := by
    simp only [IntKind.wrap, IntKind.bits, IntKind.signed]
    simp
    omega
  rw [e4, e3]
theorem and_mask_i64 (k : Nat) (hk : k ≤ 62) (x m : Int) (h0 : 0 ≤ x) (h1 : x < 9223372036854775808) (hm : m = 2 ^ k - 1) : Go.bits .and .i64 x m = x % 2 ^ k := by
  have e : Go.bits .and .i64 x m = IntKind.i64.wrap ((BitVec.ofInt 64 x &&& BitVec.ofInt 64 m).toNat : Int) := rfl
  have hp : (2 : Int) ^ k = ((2 ^ k : Nat) : Int) := by simp
  have hle : 2 ^ k ≤ 2 ^ 62 := Nat.pow_le_pow_right (by decide) hk
  have hpos := Nat.two_pow_pos k
  have e1 : (BitVec.ofInt 64 x).toNat = x.toNat := by rw [BitVec.toNat_ofInt]; omega
  have e2 : (BitVec.ofInt 64 m).toNat = 2 ^ k - 1 := by rw [BitVec.toNat_ofInt, hm, hp]; omega
  rw [e, BitVec.toNat_and, e1, e2, Nat.and_two_pow_sub_one_eq_mod, hp]
  have hlt : x.toNat % 2 ^ k < 2 ^ k := Nat.mod_lt _ hpos
  have e3 : ((x.toNat % 2 ^ k : Nat) : Int) = x % ((2 ^ k : Nat) : Int) := by
    rw [Int.natCast_emod, Int.toNat_of_nonneg h0]
  have e4 : IntKind.i64.wrap ((x.toNat % 2 ^ k : Nat) : Int) = ((x.toNat % 2 ^ k : Nat) : Int) := by
    rw [IntKind.wrap_i64]
    omega
  rw [e4, e3]
theorem u8_wrap (x : Int) : IntKind.u8.wrap x = x % 256 := by simp [IntKind.wrap, IntKind.bits, IntKind.signed]
theorem u32_wrap (x : Int) : IntKind.u32.wrap x = x % 4294967296 := by simp [IntKind.wrap, IntKind.bits, IntKind.signed]
theorem u64_wrap (x : Int) : IntKind.u64.wrap x = x % 18446744073709551616 := by simp [IntKind.wrap, IntKind.bits, IntKind.signed]
theorem wrap_id (x : Int) (h : -9223372036854775808 ≤ x) (h2 : x ≤ 9223372036854775807) : wrap64 x = x := by unfold wrap64; omega
/-- From w on to w', a state in block g whose row was v and is v': nothing else has been turned. -/
structure Moved (B g : Nat) (w : World) (v : Value) (w' : World) (v' : Value) : Prop where
  below : Below B w w'
  kept : Kept w w' (fun k => k = g ∨ v.ownBlock = some k)
  own : ∀ k, v'.ownBlock = some k → v.ownBlock = some k ∨ w.heap.size ≤ k
theorem Moved.refl (B g : Nat) (w : World) (v : Value) : Moved B g w v w v := ⟨Below.refl _ _, Kept.refl _ _, fun _ h => .inl h⟩
theorem Moved.trans {B g : Nat} {w w1 w2 : World} {v v1 v2 : Value} (h : Moved B g w v w1 v1) (k : Moved B g w1 v1 w2 v2) : Moved B g w v w2 v2 :=
  ⟨h.below.trans k.below, h.kept.then_ k.kept (fun i hi => by
    rcases hi with rfl | hi
    · exact .inl (.inl rfl)
    · exact (h.own i hi).imp .inr id), fun i hi => (k.own i hi).elim (fun h1 => h.own i h1) (fun h1 => .inr (Nat.le_trans h.kept.1 h1))⟩
theorem Moved.new {B g : Nat} {w w1 w2 : World} {v v1 : Value} (h : Moved B g w v w1 v1) (k : Below w1.heap.size w1 w2) (hB : B ≤ w1.heap.size) : Moved B g w v w2 v1 :=
  ⟨h.below.trans (k.mono hB), h.kept.below k, h.own⟩
theorem Moved.drew {B g : Nat} {w w1 : World} {v v1 : Value} (h : Moved B g w v w1 v1) : Moved B g w v w1.drew v1 := ⟨below_drew h.below, h.kept.drew, h.own⟩
theorem Moved.drewN {B g : Nat} {w w1 : World} {v v1 : Value} (h : Moved B g w v w1 v1) (m : Nat) : Moved B g w v (w1.drewN m) v1 := ⟨pw_below_drewN h.below m, h.kept.drewN m, h.own⟩
theorem Moved.set {B g : Nat} {w w1 : World} {v v1 : Value} (h : Moved B g w v w1 v1) (hB : B ≤ g) (j : Nat) (u : Value) : Moved B g w v (w1.setCell ⟨g, j, none⟩ u) v1 :=
  ⟨h.below.setCell hB u, h.kept.setCell (p := ⟨g, j, none⟩) (.inl (.inl rfl)) u, h.own⟩
theorem Moved.app {B g : Nat} {w W w1 : World} {v u u1 : Value} (h : Moved B g w v W u) (hg : W.grownBy w1 u.ownBlock) (hb : Below B w w1) (ho : u1.ownBlock = u.ownBlock ∨ ∃ b, u1.ownBlock = some b ∧ W.heap.size ≤ b) : Moved B g w v w1 u1 :=
  ⟨hb, h.kept.of_grown hg (fun k hk => (h.own k hk).imp .inr id), fun k hk => by
    rcases ho with e | ⟨b, e, hle⟩
    · exact h.own k (e ▸ hk)
    · rw [hk] at e
      injection e with e
      subst e
      exact .inr (Nat.le_trans h.kept.1 hle)⟩
/-- Another state: its block and its row are none of what was turned. -/
def Apart (g : Nat) (v : Value) (g2 : Nat) (v2 : Value) : Prop := g ≠ g2 ∧ v2.ownBlock ≠ some g ∧ v.ownBlock ≠ some g2 ∧ ∀ k, v.ownBlock = some k → v2.ownBlock ≠ some k
theorem Apart.symm {g g2 : Nat} {v v2 : Value} (h : Apart g v g2 v2) : Apart g2 v2 g v := ⟨h.1.symm, h.2.2.1, h.2.1, fun k hk hk2 => h.2.2.2 k hk2 hk⟩
theorem Apart.moved {B g g2 : Nat} {w w' : World} {v v' v2 : Value} (h : Apart g v g2 v2) (hm : Moved B g w v w' v') (hg2 : g2 < w.heap.size) (hv2 : ∀ k, v2.ownBlock = some k → k < w.heap.size) : Apart g v' g2 v2 :=
  ⟨h.1, h.2.1, fun e => (hm.own g2 e).elim h.2.2.1 (fun hle => absurd hle (by omega)), fun k hk hk2 => (hm.own k hk).elim (fun h1 => h.2.2.2 k h1 hk2) (fun hle => absurd hle (by have := hv2 k hk2; omega))⟩
theorem Apart.block {B g g2 : Nat} {w w' : World} {v v' v2 : Value} {o : Obj} (h : Apart g v g2 v2) (hm : Moved B g w v w' v') (hb : w.heap[g2]? = some o) : w'.heap[g2]? = some o :=
  blk_kept hb hm.kept (fun hk => hk.elim (fun e => h.1 e.symm) h.2.2.1)
theorem Apart.row {α : Type} {d : Kd α} {e base B g g2 : Nat} {w w' : World} {v v' v2 : Value} {xs : List α} (h : Apart g v g2 v2) (hm : Moved B g w v w' v') (hr : d.R e w base (fun k => v2.ownBlock = some k) v2 xs) : d.R e w' base (fun k => v2.ownBlock = some k) v2 xs :=
  Kd.R_kept hr hm.kept (fun k hk hs => hs.elim (fun e => h.2.1 (e ▸ hk)) (fun h1 => h.2.2.2 k h1 hk))
/-- A row of bytes of one's own. -/
def BytesAt (w : World) (B : Nat) (v : Value) (xs : List Int) : Prop := Kd.R (Kd.int .u8) 5 w B (fun k => v.ownBlock = some k) v xs
theorem BytesAt.of {w : World} {B : Nat} {ok : Nat → Prop} {v : Value} {xs : List Int} (h : Kd.R (Kd.int .u8) 5 w B ok v xs) : BytesAt w B v xs := by
  obtain ⟨h0, inner, hown, hr⟩ := h
  exact ⟨fun k hk => hk, inner, hown, hr.imp_ (fun _ _ hm => hm)⟩
theorem BytesAt.all {w : World} {B : Nat} {v : Value} {xs : List Int} (h : BytesAt w B v xs) : Kd.R (Kd.int .u8) 5 w B (fun _ => True) v xs := Kd.R_mono h (fun _ _ => trivial)
theorem BytesAt.nil (w : World) (B : Nat) : BytesAt w B (.slice none 0 0) [] := Kd.R_nil _ _ _ _ _
theorem BytesAt.below {w w' : World} {B : Nat} {v : Value} {xs : List Int} (h : BytesAt w B v xs) (hb : Below w.heap.size w w') : BytesAt w' B v xs := Kd.R_below h hb
theorem BytesAt.set {w : World} {B : Nat} {v : Value} {xs : List Int} (h : BytesAt w B v xs) {g t : Nat} {cells : Array Value} (hb : w.heap[g]? = some (.cells cells t (0, 0))) (ht : t ≠ 5) (j : Nat) (u : Value) : BytesAt (w.setCell ⟨g, j, none⟩ u) B v xs :=
  .of (Kd.R_set h.all hb (fun q hq => by
    have : q = 5 := by simpa [Kd.int, Kd.scalar] using hq
    rw [this]; exact fun e => ht e.symm) j u)
theorem BytesAt.lt {w : World} {B : Nat} {v : Value} {xs : List Int} (h : BytesAt w B v xs) : ∀ k, v.ownBlock = some k → k < w.heap.size := fun k hk => Kd.R_lt h k hk
theorem BytesAt.slice {w : World} {B : Nat} {v : Value} {xs : List Int} {y : Int} (h : BytesAt w B v (xs ++ [y])) : ∃ A c, v = .slice A (xs.length + 1) c := by
  obtain ⟨A, c, e⟩ := Kd.R_slice h
  rw [List.length_append] at e
  exact ⟨A, c, e⟩
theorem BytesAt.text {w : World} {B : Nat} {v : Value} {xs : List Int} (h : BytesAt w B v xs) : (convert 80 9 v).run Try.prog w = .ok (.string (strOfNums xs)) w := by
  obtain ⟨A, c, rfl, hl, hc⟩ := Kd.R_reads h
  exact Kd.C_string Try.underlying80 Try.underlying5 Try.underlying9 hc
/-- Byte i of a row. -/
theorem BytesAt.place {w : World} {B : Nat} {v : Value} {xs : List Int} (h : BytesAt w B v xs) (i : Nat) (hi : i < xs.length) :
    ∃ b c, v = .slice (some ⟨b, 0, none⟩) xs.length c ∧ w.cell? ⟨b, i, none⟩ = some (.int .u8 (xs.getD i 0)) ∧ w.frozen? ⟨b, i, none⟩ = false ∧ B ≤ b ∧ b < w.heap.size := by
  obtain ⟨inner, hown⟩ := Kd.R_own h
  obtain ⟨A, c, e, _, hC⟩ := Kd.R_reads h
  have hr := Kd.reads_of_C (d := (0 : Int)) (enc := Value.int .u8) hC
  rcases hown.2 with ⟨e2, h0⟩ | ⟨b, cap, cur, e2, hb, hblk, _⟩
  · omega
  · rw [e2] at e
    injection e with e3 _ e4
    subst e3 e4
    obtain ⟨ad, e5, hcell⟩ := ReadsOf.at_ hr (i : Int) (by omega) (by omega)
    injection e5 with e5
    subst e5
    refine ⟨b, cap, e2, ?_, ?_, hb, blk_lt hblk⟩
    · have : (⟨b, 0, none⟩ : Addr).add (i : Int).toNat = ⟨b, i, none⟩ := by rw [add_plain]; simp
      rw [this] at hcell
      simpa [rdOf] using hcell
    · exact blk_frozen hblk i
/-- A byte of a row is turned. -/
theorem BytesAt.store {w : World} {B b n c : Nat} {xs : List Int} (h : BytesAt w B (.slice (some ⟨b, 0, none⟩) n c) xs) (i : Nat) (y : Int) :
    BytesAt (w.setCell ⟨b, i, none⟩ (.int .u8 y)) B (.slice (some ⟨b, 0, none⟩) n c) (xs.set i y) := by
  have := Kd.R_putn (enc := Value.int .u8) (h1 := fun _ => rfl) h (i : Int) y
  rw [Int.toNat_natCast] at this
  exact this
theorem infoB : (Try.prog.info? 5).map (fun i => (i.zero, i.size, i.bytes)) = some (some (.int .u8 0), 1, 1) := by kernel_rfl
section
variable {ops : Array Oper} {o : Oper} {a : Act} {Q : Exit → Act → World → Prop} {Kc : Act → World → Prop} {rest : List Oper}
/-- One byte more: a list of operations; a region that draws. -/
theorem app_list {w0 W : World} {B : Nat} (s x : Operand) (y : Int) {v : Value} {xs : List Int} (hgd : o.guard = none)
    (ho : o.op = .call { callee := .builtin .append, args := #[s, x], argTypes := #[80, 80] }) (hs : a.eval s = v) (hx : a.eval x = .slice (some ⟨W.heap.size, 0, none⟩) 1 1)
    (HO : BytesAt W B v xs) (HB : Below B w0 W) (hB : B ≤ W.heap.size) (hl : xs.length < 140737488355328)
    (h : ∀ v1 w1, Aside0 (BytesAt w1 B v1 (xs ++ [y])) → Aside0 (Below B w0 w1) → Aside0 (W.grownBy w1 v.ownBlock) → Aside0 (v1.ownBlock = v.ownBlock ∨ ∃ b, v1.ownBlock = some b ∧ W.heap.size ≤ b) → wpList Try.prog ops Q rest (a.put o.dst v1) w1) :
    wpList Try.prog ops Q (o :: rest) a (W.alloc (.cells #[.int .u8 y] 5)) :=
  Kd.R_append (Kd.int .u8) (w0 := w0) B hgd s x 80 5 (.int .u8 0) 1 ho Try.underlying80 infoB rfl (by decide) (by omega) v xs y [.int .u8 y] (fun _ => True) (fun _ => False) hs hx rfl (fun _ hk => hk.elim)
    (fun _ _ => trivial) HO.all HB hB (by omega) (fun v1 w1 h1 h2 h3 h4 => h v1 w1 ⟨.of h1⟩ ⟨h2⟩ ⟨h3⟩ ⟨h4⟩)
theorem app_step {w0 W : World} {B : Nat} (s x : Operand) (y : Int) {v : Value} {xs : List Int} (hw : Region.wanted o (yielded ops a.tmps) = true)
    (ho : o.op = .call { callee := .builtin .append, args := #[s, x], argTypes := #[80, 80] }) (hs : a.eval s = v) (hx : a.eval x = .slice (some ⟨W.heap.size, 0, none⟩) 1 1)
    (HO : BytesAt W B v xs) (HB : Below B w0 W) (hB : B ≤ W.heap.size) (hl : xs.length < 140737488355328)
    (h : ∀ v1 w1, Aside0 (BytesAt w1 B v1 (xs ++ [y])) → Aside0 (Below B w0 w1) → Aside0 (W.grownBy w1 v.ownBlock) → Aside0 (v1.ownBlock = v.ownBlock ∨ ∃ b, v1.ownBlock = some b ∧ W.heap.size ≤ b) → Kc (a.put o.dst v1) w1) :
    if Region.wanted o (yielded ops a.tmps) = true then Oper.wp Try.prog o a (W.alloc (.cells #[.int .u8 y] 5)) Kc Q else Kc (a.put o.dst undef) (W.alloc (.cells #[.int .u8 y] 5)) :=
  Kd.R_append_step (Kd.int .u8) (w0 := w0) B hw s x 80 5 (.int .u8 0) 1 ho Try.underlying80 infoB rfl (by decide) (by omega) v xs y [.int .u8 y] (fun _ => True) (fun _ => False) hs hx rfl (fun _ hk => hk.elim)
    (fun _ _ => trivial) HO.all HB hB (by omega) (fun v1 w1 h1 h2 h3 h4 => h v1 w1 ⟨.of h1⟩ ⟨h2⟩ ⟨h3⟩ ⟨h4⟩)
theorem app_step_drew {w0 W : World} {B : Nat} (s x : Operand) (y : Int) {v : Value} {xs : List Int} (hw : Region.wanted o (yielded ops a.tmps) = true)
    (ho : o.op = .call { callee := .builtin .append, args := #[s, x], argTypes := #[80, 80] }) (hs : a.eval s = v) (hx : a.eval x = .slice (some ⟨W.heap.size, 0, none⟩) 1 1)
    (HO : BytesAt W B v xs) (HB : Below B w0 W) (hB : B ≤ W.heap.size) (hl : xs.length < 140737488355328)
    (h : ∀ v1 w1, Aside0 (BytesAt w1 B v1 (xs ++ [y])) → Aside0 (Below B w0 w1) → Aside0 (W.grownBy w1 v.ownBlock) → Aside0 (v1.ownBlock = v.ownBlock ∨ ∃ b, v1.ownBlock = some b ∧ W.heap.size ≤ b) → Kc (a.put o.dst v1) w1) :
    if Region.wanted o (yielded ops a.tmps) = true then Oper.wp Try.prog o a (W.alloc (.cells #[.int .u8 y] 5)).drew Kc Q else Kc (a.put o.dst undef) (W.alloc (.cells #[.int .u8 y] 5)).drew :=
  app_step (W := W.drew) s x y hw ho hs hx (HO.below (below_drew (Below.refl _ _))) (below_drew HB) hB hl (fun v1 w1 h1 h2 h3 h4 => h v1 w1 h1 h2 ⟨⟨h3.out.os, h3.out.tape, h3.out.output, h3.out.size, h3.out.block⟩⟩ h4)
end
end Go.Proofs.Ytoologbaoifheaa.Hand
