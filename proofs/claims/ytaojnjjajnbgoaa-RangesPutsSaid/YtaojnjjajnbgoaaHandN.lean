/- Contracts of layer 18, proved by hand: rows of deeds. -/
import Derived.Test.YtaojnjjajnbgoaaMathC
namespace Go.Proofs.Ytaojnjjajnbgoaa.Hand
open Go.RowKit Go.Proofs.Ytaojnjjajnbgoaa.Q Go.Proofs.Ytaojnjjajnbgoaa.Math Go.Proofs.YtaojnjjajnbgoaaW.PrintWords Go.Proofs.YtaojnjjajnbgoaaW.PrintLast Go.Proofs.YtaojnjjajnbgoaaW.PrintMore
set_option linter.unusedVariables false
set_option linter.unusedSimpArgs false

structure Deed where
  b : Bool
  f : Int
  n : Int
  t : Int
def okDeed (d : Deed) : Prop := if d.b = true then bitsP d.f d.n else mayP d.f d.n d.t
instance (d : Deed) : Decidable (okDeed d) := by unfold okDeed; infer_instance
def partOf (d : Deed) : Part := if d.b = true then (d.f, 1, 2 ^ d.n.toNat) else (d.f, d.n, d.t)
theorem part_may (d : Deed) (h : okDeed d) : mayP (partOf d).1 (partOf d).2.1 (partOf d).2.2 := by
  unfold okDeed at h
  unfold partOf
  split
  · rename_i hb
    rw [if_pos hb] at h
    exact bits_may _ _ h
  · rename_i hb
    rw [if_neg hb] at h
    exact h
/-- A deed's kind: four cells. -/
def kD : Kd Deed := Kd.iso (Kd.pair Kd.bool (Kd.pair (Kd.int .i64) (Kd.pair (Kd.int .i64) (Kd.int .i64)))) (fun x => (x.b, x.f, x.n, x.t))
def deedCells (x : Deed) : List Value := [.bool x.b, .int .i64 x.f, .int .i64 x.n, .int .i64 x.t]
theorem kD_open {w : World} {x : Deed} {cs : List Value} (h : kD.K w x cs) : cs = deedCells x := by
  obtain ⟨_, _, rfl, rfl, _, _, rfl, rfl, _, _, rfl, rfl, rfl⟩ := h
  rfl
theorem kD_mkM (w : World) (base : Nat) (ok : Nat → Prop) (x : Deed) : kD.M w base ok x (deedCells x) :=
  ⟨[.bool x.b], [.int .i64 x.f, .int .i64 x.n, .int .i64 x.t], rfl, rfl, [.int .i64 x.f], [.int .i64 x.n, .int .i64 x.t], rfl, rfl, [.int .i64 x.n], [.int .i64 x.t], rfl, rfl, rfl⟩
/-- Deeds of one's own. -/
def DeedsAt (w : World) (B : Nat) (u : Value) (xs : List Deed) : Prop := Kd.R kD 28 w B (fun _ => True) u xs
theorem kD_E : ∀ q, q ∈ 28 :: kD.E → q = 28 := by
  intro q hq
  simpa [kD, Kd.iso, Kd.pair, Kd.bool, Kd.int, Kd.scalar] using hq
theorem DeedsAt.below {w w' : World} {B : Nat} {u : Value} {xs : List Deed} (h : DeedsAt w B u xs) (hb : Below w.heap.size w w') : DeedsAt w' B u xs := Kd.R_below h hb
/-- An encoder's call leaves them. -/
theorem DeedsAt.moved {w w' : World} {B B2 g : Nat} {u v v' : Value} {s : Enc} {xs : List Deed} (h : DeedsAt w B u xs) (he : EncAt w B2 g v s) (hm : Moved B2 g w v w' v') : DeedsAt w' B u xs := by
  have h1 := Kd.R_types h he.1 (fun q hq => by rw [kD_E q hq]; decide)
  have h2 := Kd.R_apartR h1 he.2.1 (fun q hq => by rw [kD_E q hq]; decide)
  refine Kd.R_mono (Kd.R_kept h2 hm.kept ?_) (fun _ _ => trivial)
  rintro k ⟨⟨_, hk1⟩, hk2⟩ hs
  rcases hs with hs | hs
  · exact hk1 hs
  · exact hk2 hs.symm
theorem DeedsAt.turned {w w' : World} {B B2 g : Nat} {u : Value} {d : Dec} {xs : List Deed} (h : DeedsAt w B u xs) (hd : DecAt w g d) (hm : Turned B2 g w w') : DeedsAt w' B u xs := by
  have h1 := Kd.R_types h hd (fun q hq => by rw [kD_E q hq]; decide)
  refine Kd.R_mono (Kd.R_kept h1 hm.kept ?_) (fun _ _ => trivial)
  rintro k ⟨_, hk1⟩ hs
  exact hk1 hs
/-- A deed more leaves the encoder. -/
theorem EncAt.deeds {W w1 : World} {B B2 g : Nat} {u v : Value} {s : Enc} {xs : List Deed} (h : EncAt W B g v s) (hu : DeedsAt W B2 u xs) (hg : W.grownBy w1 u.ownBlock) : EncAt w1 B g v s := by
  refine ⟨?_, ?_, h.2.2⟩
  · rw [hg.block g h.lt (fun e => ?_)]
    · exact h.1
    · exact Kd.R_ne hu h.1 (by decide) e
  · have h1 := Kd.R_apartR h.2.1 hu (fun q hq => by
      have : q = 5 := by simpa [Kd.int, Kd.scalar] using hq
      rw [this]; decide)
    exact BytesAt.of (Kd.R_grown h1 hg (fun k hk => hk.2))
theorem infoD : (Try.prog.info? 28).map (fun i => (i.zero, i.size, i.bytes)) = some (some (.agg #[.bool false, .int .i64 0, .int .i64 0, .int .i64 0]), 4, 32) := by kernel_rfl
section
variable {ops : Array Oper} {o : Oper} {a : Act} {Q : Exit → Act → World → Prop} {rest : List Oper}
theorem deed_list {w0 W : World} {B : Nat} (s x : Operand) (y : Deed) {u : Value} {xs : List Deed} (hgd : o.guard = none)
    (ho : o.op = .call { callee := .builtin .append, args := #[s, x], argTypes := #[22, 22] }) (hs : a.eval s = u) (hx : a.eval x = .slice (some ⟨W.heap.size, 0, none⟩) 1 1)
    (HO : DeedsAt W B u xs) (HB : Below B w0 W) (hB : B ≤ W.heap.size) (hl : xs.length < 4398046511104)
    (h : ∀ v1 w1, Aside0 (DeedsAt w1 B v1 (xs ++ [y])) → Aside0 (Below B w0 w1) → Aside0 (W.grownBy w1 u.ownBlock) → wpList Try.prog ops Q rest (a.put o.dst v1) w1) :
    wpList Try.prog ops Q (o :: rest) a (W.alloc (.cells #[.bool y.b, .int .i64 y.f, .int .i64 y.n, .int .i64 y.t] 28)) :=
  Kd.R_append kD (w0 := w0) B hgd s x 22 28 (.agg #[.bool false, .int .i64 0, .int .i64 0, .int .i64 0]) 32 ho Try.underlying22 infoD rfl (by decide) (by omega) u xs y (deedCells y) (fun _ => True) (fun _ => False) hs hx (kD_mkM _ _ _ _) (fun _ hk => hk.elim)
    (fun _ _ => trivial) HO HB hB (by omega) (fun v1 w1 h1 h2 h3 _ => h v1 w1 ⟨h1⟩ ⟨h2⟩ ⟨h3⟩)
end
/-- Deeds that came in. -/
def Came (w : World) (A : Option Addr) (n : Nat) (V : Nat → Deed) : Prop := ∀ j, j < n → ∃ ad, A = some ad ∧ w.cell? (ad.add (j * 4 + 0)) = some (.bool (V j).b) ∧ w.cell? (ad.add (j * 4 + 1)) = some (.int .i64 (V j).f) ∧ w.cell? (ad.add (j * 4 + 2)) = some (.int .i64 (V j).n) ∧ w.cell? (ad.add (j * 4 + 3)) = some (.int .i64 (V j).t)
theorem run_split (ps : List Part) (k : Nat) (s : Enc) : runE ps s = runE (ps.drop k) (runE (ps.take k) s) := by
  unfold runE
  rw [← List.foldl_append, List.take_append_drop]
/-- The next deed is read where it was put. -/
theorem step_sim {s : Enc} {xs : List Deed} (h : ∀ x ∈ xs, okDeed x) (hs : s = runE (xs.map partOf) newE) (k : Nat) (y : Deed) (hk : xs[k]? = some y) (dd : Dec) (hS : Sim (runE ((xs.take k).map partOf) newE) dd) (he : Math.Ends s dd.s) :
    (peekD dd (partOf y).2.2).2 = 0 ∧ (partOf y).1 ≤ (peekD dd (partOf y).2.2).1 ∧ (peekD dd (partOf y).2.2).1 < (partOf y).1 + (partOf y).2.1 ∧ (takeD (partOf y).1 (partOf y).2.1 (partOf y).2.2 dd).1 = 0 ∧
      Sim (runE ((xs.take (k + 1)).map partOf) newE) (takeD (partOf y).1 (partOf y).2.1 (partOf y).2.2 dd).2 ∧ (takeD (partOf y).1 (partOf y).2.1 (partOf y).2.2 dd).2.s = dd.s := by
  have hlt : k < xs.length := (List.getElem?_eq_some_iff.1 hk).1
  have hy : xs[k] = y := (List.getElem?_eq_some_iff.1 hk).2
  have hin : ∀ p ∈ xs.map partOf, mayP p.1 p.2.1 p.2.2 := fun p hp => by
    obtain ⟨x, hx, rfl⟩ := List.mem_map.1 hp
    exact part_may x (h x hx)
  have hE := run_fits ((xs.take k).map partOf) (fun p hp => hin p (by rw [List.map_take] at hp; exact List.mem_of_mem_take hp)) newE new_fits (by decide)
  have hnext : runE ((xs.take (k + 1)).map partOf) newE = putE (partOf y).1 (partOf y).2.1 (partOf y).2.2 (runE ((xs.take k).map partOf) newE) := by
    rw [List.take_succ_eq_append_getElem hlt, List.map_append, List.map_singleton, runE_snoc, hy]
  have hE2 := run_fits ((xs.take (k + 1)).map partOf) (fun p hp => hin p (by rw [List.map_take] at hp; exact List.mem_of_mem_take hp)) newE new_fits (by decide)
  have hF := run_fits ((xs.drop (k + 1)).map partOf) (fun p hp => hin p (by rw [List.map_drop] at hp; exact List.mem_of_mem_drop hp)) _ hE2.1 hE2.2.1
  have hs2 : runE ((xs.drop (k + 1)).map partOf) (runE ((xs.take (k + 1)).map partOf) newE) = s := by
    rw [hs, run_split (xs.map partOf) (k + 1) newE, List.map_take, List.map_drop]
  rw [hs2, hnext] at hF
  rw [hnext]
  exact sim_take _ _ _ _ s dd hS hE.1 hE.2.1 (part_may y (h y (hy ▸ List.getElem_mem hlt))) hF.2.2 he hF.1.good.wid0
theorem step_bits {s : Enc} {xs : List Deed} (h : ∀ x ∈ xs, okDeed x) (hs : s = runE (xs.map partOf) newE) (k : Nat) (y : Deed) (hk : xs[k]? = some y) (dd : Dec) (hS : Sim (runE ((xs.take k).map partOf) newE) dd) (he : Math.Ends s dd.s) (hb : y.b = true) :
    (bitsD y.n dd).1 = y.f ∧ (bitsD y.n dd).2.1 = 0 ∧ Sim (runE ((xs.take (k + 1)).map partOf) newE) (bitsD y.n dd).2.2 ∧ (bitsD y.n dd).2.2.s = dd.s := by
  have hlt : k < xs.length := (List.getElem?_eq_some_iff.1 hk).1
  have hy : xs[k] = y := (List.getElem?_eq_some_iff.1 hk).2
  have hok := h y (hy ▸ List.getElem_mem hlt)
  have hst := step_sim h hs k y hk dd hS he
  have hp : partOf y = (y.f, 1, 2 ^ y.n.toNat) := by unfold partOf; rw [if_pos hb]
  rw [hp] at hst
  unfold okDeed at hok
  rw [if_pos hb] at hok
  obtain ⟨a1, a2, a3, a4, a5, a6⟩ := hst
  have a2 : y.f ≤ (peekD dd (2 ^ y.n.toNat)).1 := a2
  have a3 : (peekD dd (2 ^ y.n.toNat)).1 < y.f + 1 := a3
  have hpk : (peekD dd (2 ^ y.n.toNat)).1 = y.f := by omega
  unfold bitsD
  rw [if_neg (by have := hok.1; have := hok.2.1; omega), if_neg (by rw [hS.bad]; decide), hpk, if_pos a4]
  exact ⟨rfl, rfl, a5, a6⟩
end Go.Proofs.Ytaojnjjajnbgoaa.Hand
