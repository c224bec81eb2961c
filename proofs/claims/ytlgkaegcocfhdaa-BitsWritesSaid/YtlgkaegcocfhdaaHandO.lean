/- Contracts of layer 1, proved by hand: deeds with a writer. -/
import Derived.Test.YtlgkaegcocfhdaaMathC
import Derived.Test.YtlgkaegcocfhdaaHandL
namespace Go.Proofs.Ytlgkaegcocfhdaa.Hand
open Go.RowKit Go.Proofs.Ytlgkaegcocfhdaa.Q Go.Proofs.YtlgkaegcocfhdaaW.PrintWords Go.Proofs.YtlgkaegcocfhdaaW.PrintLast Go.Proofs.YtlgkaegcocfhdaaW.PrintMore
set_option linter.unusedVariables false
set_option linter.unusedSimpArgs false

/-- A deed's kind: four cells. -/
def kD : Kd Deed := Kd.iso (Kd.pair (Kd.int .i64) (Kd.pair (Kd.int .i64) (Kd.pair (Kd.int .i64) (Kd.int .u64)))) (fun x => (x.k, x.w, x.n, x.u))
def deedCells (x : Deed) : List Value := [.int .i64 x.k, .int .i64 x.w, .int .i64 x.n, .int .u64 x.u]
theorem kD_open {w : World} {x : Deed} {cs : List Value} (h : kD.K w x cs) : cs = deedCells x := by
  obtain ⟨_, _, rfl, rfl, _, _, rfl, rfl, _, _, rfl, rfl, rfl⟩ := h
  rfl
theorem kD_mkM (w : World) (base : Nat) (ok : Nat → Prop) (x : Deed) : kD.M w base ok x (deedCells x) :=
  ⟨[.int .i64 x.k], [.int .i64 x.w, .int .i64 x.n, .int .u64 x.u], rfl, rfl, [.int .i64 x.w], [.int .i64 x.n, .int .u64 x.u], rfl, rfl, [.int .i64 x.n], [.int .u64 x.u], rfl, rfl, rfl⟩
/-- Deeds of one's own. -/
def DeedsAt (w : World) (B : Nat) (u : Value) (xs : List Deed) : Prop := Kd.R kD 27 w B (fun _ => True) u xs
theorem kD_E : ∀ q, q ∈ 27 :: kD.E → q = 27 := by
  intro q hq
  simpa [kD, Kd.iso, Kd.pair, Kd.bool, Kd.int, Kd.scalar] using hq
theorem DeedsAt.below {w w' : World} {B : Nat} {u : Value} {xs : List Deed} (h : DeedsAt w B u xs) (hb : Below w.heap.size w w') : DeedsAt w' B u xs := Kd.R_below h hb
theorem DeedsAt.moved {w w' : World} {B B2 g : Nat} {u v v' : Value} {bs : List Bool} {xs : List Deed} (h : DeedsAt w B u xs) (he : WAt w B2 g v bs) (hm : Moved B2 g w v w' v') : DeedsAt w' B u xs := by
  have h1 := Kd.R_types h he.1 (fun q hq => by rw [kD_E q hq]; decide)
  have h2 := Kd.R_apartR h1 he.2.1 (fun q hq => by rw [kD_E q hq]; decide)
  refine Kd.R_mono (Kd.R_kept h2 hm.kept ?_) (fun _ _ => trivial)
  rintro k ⟨⟨_, hk1⟩, hk2⟩ hs
  rcases hs with hs | hs
  · exact hk1 hs
  · exact hk2 hs.symm
theorem DeedsAt.turned {w w' : World} {B B2 g p : Nat} {u : Value} {s : ByteArray} {xs : List Deed} (h : DeedsAt w B u xs) (hd : RAt w g s p) (hm : Turned B2 g w w') : DeedsAt w' B u xs := by
  have h1 := Kd.R_types h hd (fun q hq => by rw [kD_E q hq]; decide)
  refine Kd.R_mono (Kd.R_kept h1 hm.kept ?_) (fun _ _ => trivial)
  rintro k ⟨_, hk1⟩ hs
  exact hk1 hs
theorem WAt.deeds {W w1 : World} {B B2 g : Nat} {u v : Value} {bs : List Bool} {xs : List Deed} (h : WAt W B g v bs) (hu : DeedsAt W B2 u xs) (hg : W.grownBy w1 u.ownBlock) : WAt w1 B g v bs := by
  refine ⟨?_, ?_, h.2.2⟩
  · rw [hg.block g h.lt (fun e => ?_)]
    · exact h.1
    · exact Kd.R_ne hu h.1 (by decide) e
  · have h1 := Kd.R_apartR h.2.1 hu (fun q hq => by
      have : q = 5 := by simpa [Kd.int, Kd.scalar] using hq
      rw [this]; decide)
    exact BytesAt.of (Kd.R_grown h1 hg (fun k hk => hk.2))
theorem infoD : (Try.prog.info? 27).map (fun i => (i.zero, i.size, i.bytes)) = some (some (.agg #[.int .i64 0, .int .i64 0, .int .i64 0, .int .u64 0]), 4, 32) := by kernel_rfl
section
variable {ops : Array Oper} {o : Oper} {a : Act} {Q : Exit → Act → World → Prop} {rest : List Oper}
theorem deed_list {w0 W : World} {B : Nat} (s x : Operand) (y : Deed) {u : Value} {xs : List Deed} (hgd : o.guard = none)
    (ho : o.op = .call { callee := .builtin .append, args := #[s, x], argTypes := #[35, 35] }) (hs : a.eval s = u) (hx : a.eval x = .slice (some ⟨W.heap.size, 0, none⟩) 1 1)
    (HO : DeedsAt W B u xs) (HB : Below B w0 W) (hB : B ≤ W.heap.size) (hl : xs.length < 4398046511104)
    (h : ∀ v1 w1, Aside0 (DeedsAt w1 B v1 (xs ++ [y])) → Aside0 (Below B w0 w1) → Aside0 (W.grownBy w1 u.ownBlock) → wpList Try.prog ops Q rest (a.put o.dst v1) w1) :
    wpList Try.prog ops Q (o :: rest) a (W.alloc (.cells #[.int .i64 y.k, .int .i64 y.w, .int .i64 y.n, .int .u64 y.u] 27)) :=
  Kd.R_append kD (w0 := w0) B hgd s x 35 27 (.agg #[.int .i64 0, .int .i64 0, .int .i64 0, .int .u64 0]) 32 ho Try.underlying35 infoD rfl (by decide) (by omega) u xs y (deedCells y) (fun _ => True) (fun _ => False) hs hx (kD_mkM _ _ _ _) (fun _ hk => hk.elim)
    (fun _ _ => trivial) HO HB hB (by omega) (fun v1 w1 h1 h2 h3 _ => h v1 w1 ⟨h1⟩ ⟨h2⟩ ⟨h3⟩)
end
/-- Deeds that came in. -/
structure InD (d : Deed) : Prop where
  n0 : -9223372036854775808 ≤ d.n
  n1 : d.n ≤ 9223372036854775807
  u0 : 0 ≤ d.u
  u1 : d.u ≤ 18446744073709551615
def Came (w : World) (A : Option Addr) (n : Nat) (V : Nat → Deed) : Prop := ∀ j, j < n → InD (V j) ∧ ∃ ad, A = some ad ∧ w.cell? (ad.add (j * 4 + 0)) = some (.int .i64 (V j).k) ∧ w.cell? (ad.add (j * 4 + 1)) = some (.int .i64 (V j).w) ∧ w.cell? (ad.add (j * 4 + 2)) = some (.int .i64 (V j).n) ∧ w.cell? (ad.add (j * 4 + 3)) = some (.int .u64 (V j).u)
/-- A deed done: the error, the bits. -/
def errD (d : Deed) : Int := if okDeed d then 0 else 11
def stepD (bs : List Bool) (d : Deed) : List Bool := if okDeed d then addD bs d else bs
theorem step_length (bs : List Bool) (d : Deed) : (stepD bs d).length ≤ bs.length + 16777300 := by
  unfold stepD
  split
  · rename_i h
    unfold addD
    rw [List.length_append]
    have := code_length bs.length d h
    omega
  · omega
theorem do_put (d : Deed) (hd : InD d) (hk : d.k = 0) (bs : List Bool) (B g : Nat) (v : Value) (w : World) (h : WAt w B g v bs) (hl : bs.length + 16777400 < 1125899906842624) :
    Calls Try.prog 31 #[.pointer (some ⟨g, 0, none⟩), .int .u64 d.u, .int .i64 d.w] w fun e w' => e = .returned (.int .i64 (errD d)) ∧ ∃ v', WAt w' B g v' (stepD bs d) ∧ Moved B g w v w' v' := by
  have ho : okDeed d = putP d.u.toNat d.w := by unfold okDeed; rw [if_pos hk]
  have hc : codeD bs.length d = nbits d.u.toNat d.w.toNat := by unfold codeD; rw [if_pos hk]
  have hu : d.u = ((d.u.toNat : Nat) : Int) := by have := hd.u0; omega
  unfold errD stepD addD
  rw [hc]
  by_cases hp : putP d.u.toNat d.w
  · rw [if_pos (ho ▸ hp), if_pos (ho ▸ hp)]
    have hw : d.w = ((d.w.toNat : Nat) : Int) := by have := hp.1; omega
    have := Put_yes d.u.toNat d.w.toNat (by have := hd.u1; omega) (by have := hp.2.1; omega) hp.2.2 bs B g v w h (by omega)
    rw [← hu, ← hw] at this
    exact this
  · rw [if_neg (ho ▸ hp), if_neg (ho ▸ hp)]
    have := Put_no d.u.toNat (by have := hd.u1; omega) d.w g w hp
    rw [← hu] at this
    refine this.mono ?_
    rintro e w2 ⟨rfl, rfl⟩
    exact ⟨rfl, v, h, Moved.refl _ _ _ _⟩
theorem do_signed (d : Deed) (hd : InD d) (hk : d.k = 1) (bs : List Bool) (B g : Nat) (v : Value) (w : World) (h : WAt w B g v bs) (hl : bs.length + 16777400 < 1125899906842624) :
    Calls Try.prog 32 #[.pointer (some ⟨g, 0, none⟩), .int .i64 d.n, .int .i64 d.w] w fun e w' => e = .returned (.int .i64 (errD d)) ∧ ∃ v', WAt w' B g v' (stepD bs d) ∧ Moved B g w v w' v' := by
  have ho : okDeed d = fitsP d.n d.w := by unfold okDeed; rw [if_neg (by omega), if_pos hk]
  have hc : codeD bs.length d = nbits (wordN d.n) d.w.toNat := by unfold codeD; rw [if_neg (by omega), if_pos hk]
  unfold errD stepD addD
  rw [hc]
  by_cases hp : fitsP d.n d.w
  · rw [if_pos (ho ▸ hp), if_pos (ho ▸ hp)]
    have hw : d.w = ((d.w.toNat : Nat) : Int) := by have := hp.1; omega
    have := Signed_yes d.n d.w.toNat hd.n0 hd.n1 (by rw [← hw]; exact hp) bs B g v w h (by omega)
    rw [← hw] at this
    exact this
  · rw [if_neg (ho ▸ hp), if_neg (ho ▸ hp)]
    refine (Signed_no d.n d.w hd.n0 hd.n1 hp g w).mono ?_
    rintro e w2 ⟨rfl, ⟨m, rfl⟩⟩
    exact ⟨rfl, v, h.below (pw_below_drewN (Below.refl _ _) m), (Moved.refl _ _ _ _).drewN m⟩
theorem do_unary (d : Deed) (hd : InD d) (hk : d.k = 2) (bs : List Bool) (B g : Nat) (v : Value) (w : World) (h : WAt w B g v bs) (hl : bs.length + 16777400 < 1125899906842624) :
    Calls Try.prog 33 #[.pointer (some ⟨g, 0, none⟩), .int .i64 d.n] w fun e w' => e = .returned (.int .i64 (errD d)) ∧ ∃ v', WAt w' B g v' (stepD bs d) ∧ Moved B g w v w' v' := by
  have ho : okDeed d = (0 ≤ d.n ∧ d.n ≤ 16777216) := by unfold okDeed; rw [if_neg (by omega), if_neg (by omega), if_pos hk]
  have hc : codeD bs.length d = List.replicate d.n.toNat false ++ [true] := by unfold codeD; rw [if_neg (by omega), if_neg (by omega), if_pos hk]
  unfold errD stepD addD
  rw [hc]
  by_cases hp : 0 ≤ d.n ∧ d.n ≤ 16777216
  · rw [if_pos (ho ▸ hp), if_pos (ho ▸ hp)]
    have hw : d.n = ((d.n.toNat : Nat) : Int) := by have := hp.1; omega
    have := Unary_yes d.n.toNat (by omega) bs B g v w h (by omega)
    rw [← hw] at this
    unfold noughts at this
    rw [List.append_assoc] at this
    exact this
  · rw [if_neg (ho ▸ hp), if_neg (ho ▸ hp)]
    refine (Unary_no d.n (by omega) g w).mono ?_
    rintro e w2 ⟨rfl, ⟨m, rfl⟩⟩
    exact ⟨rfl, v, h.below (pw_below_drewN (Below.refl _ _) m), (Moved.refl _ _ _ _).drewN m⟩
theorem do_rice (d : Deed) (hd : InD d) (hk : d.k = 3) (bs : List Bool) (B g : Nat) (v : Value) (w : World) (h : WAt w B g v bs) (hl : bs.length + 16777400 < 1125899906842624) :
    Calls Try.prog 11 #[.pointer (some ⟨g, 0, none⟩), .int .i64 d.n, .int .i64 d.w] w fun e w' => e = .returned (.int .i64 (errD d)) ∧ ∃ v', WAt w' B g v' (stepD bs d) ∧ Moved B g w v w' v' := by
  have ho : okDeed d = riceP d.n d.w := by unfold okDeed; rw [if_neg (by omega), if_neg (by omega), if_neg (by omega), if_pos hk]
  have hc : codeD bs.length d = riceB d.n d.w.toNat := by unfold codeD; rw [if_neg (by omega), if_neg (by omega), if_neg (by omega), if_pos hk]
  unfold errD stepD addD
  rw [hc]
  by_cases hp : riceP d.n d.w
  · rw [if_pos (ho ▸ hp), if_pos (ho ▸ hp)]
    have hw : d.w = ((d.w.toNat : Nat) : Int) := by have := hp.1; omega
    have := Rice_yes d.n d.w.toNat hd.n0 hd.n1 (by rw [← hw]; exact hp) bs B g v w h (by omega)
    rw [← hw] at this
    exact this
  · rw [if_neg (ho ▸ hp), if_neg (ho ▸ hp)]
    refine (Rice_no d.n d.w hd.n0 hd.n1 hp g w).mono ?_
    rintro e w2 ⟨rfl, ⟨m, rfl⟩⟩
    exact ⟨rfl, v, h.below (pw_below_drewN (Below.refl _ _) m), (Moved.refl _ _ _ _).drewN m⟩
theorem do_align (d : Deed) (h0 : d.k ≠ 0) (h1 : d.k ≠ 1) (h2 : d.k ≠ 2) (h3 : d.k ≠ 3) (bs : List Bool) (B g : Nat) (v : Value) (w : World) (h : WAt w B g v bs) (hl : bs.length + 16777400 < 1125899906842624) :
    errD d = 0 ∧ Calls Try.prog 34 #[.pointer (some ⟨g, 0, none⟩)] w fun e w' => e = .returned (.tuple #[]) ∧ ∃ v', WAt w' B g v' (stepD bs d) ∧ Moved B g w v w' v' := by
  have ho : okDeed d = True := by unfold okDeed; rw [if_neg h0, if_neg h1, if_neg h2, if_neg h3]
  have hc : codeD bs.length d = List.replicate (padN bs.length) false := by unfold codeD; rw [if_neg h0, if_neg h1, if_neg h2, if_neg h3]
  unfold errD stepD addD
  rw [hc, if_pos (by rw [ho]; trivial), if_pos (by rw [ho]; trivial)]
  exact ⟨rfl, Align_any bs B g v w h (by omega)⟩
end Go.Proofs.Ytlgkaegcocfhdaa.Hand
