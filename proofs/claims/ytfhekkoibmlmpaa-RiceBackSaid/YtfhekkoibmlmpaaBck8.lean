/- Texts of this claim's proof, laid behind each other by a program of ours, without what the proof does not reach: Contracts of layer 8, proved by hand: try; Contracts of layer 8, proved by hand: try, where the shape may be; Contracts of layer 8, proved by hand: try, whatever comes; what the best recipe is; Contracts of layer 8, proved by hand: Best; Contracts of layer 8, proved by hand: what is the same is the same; short lists; Contracts of layer 1, proved by hand: the reference's writer; Contracts of layer 8, proved by hand: the reference's Encode; where it is refused ahead; its words; Contracts of layer 8, proved by hand: awake; Contracts of layer 8, proved by hand: the reference's Best, its words; Contracts of layer 8, proved by hand: RiceBest; Contracts of layer 8, proved by hand: the reference's Encode, whole; Contracts of layer 8, proved by hand: RiceBack -/
import Derived.Laws.StructEq
import Derived.Laws.MakeOwn
import Derived.Test.YtfhekkoibmlmpaaBck1
import Derived.Test.YtfhekkoibmlmpaaBck2
import Derived.Test.YtfhekkoibmlmpaaBck3
import Derived.Test.YtfhekkoibmlmpaaBck4
import Derived.Test.YtfhekkoibmlmpaaBck5
import Derived.Test.YtfhekkoibmlmpaaBck6
import Derived.Test.YtfhekkoibmlmpaaBck7
import Derived.Test.YtfhekkoibmlmpaaBckWApart
import Derived.Test.YtfhekkoibmlmpaaBckWFoot
import Derived.Test.YtfhekkoibmlmpaaBckWGuard
import Derived.Test.YtfhekkoibmlmpaaBckWInv
import Derived.Test.YtfhekkoibmlmpaaBckWKept
import Derived.Test.YtfhekkoibmlmpaaBckWLast
import Derived.Test.YtfhekkoibmlmpaaBckWMore
import Derived.Test.YtfhekkoibmlmpaaBckWN
import Derived.Test.YtfhekkoibmlmpaaBckWRepsOne
import Derived.Test.YtfhekkoibmlmpaaBckWShare
import Derived.Test.YtfhekkoibmlmpaaBckWTab
import Derived.Test.YtfhekkoibmlmpaaBckWWords
/- Contracts of layer 8, proved by hand: try. -/
namespace Go.Proofs.Ytfhekkoibmlmpaa.Hand
open Go.RowKit Go.Proofs.Ytfhekkoibmlmpaa.Q Go.Proofs.YtfhekkoibmlmpaaW.PrintWords Go.Proofs.YtfhekkoibmlmpaaW.PrintLast Go.Proofs.YtfhekkoibmlmpaaW.PrintMore
set_option linter.unusedVariables false
set_option linter.unusedSimpArgs false

/-- Partitions from one on, each with its best parameter. -/
def tryL (l : List Int) (n order : Nat) : Nat → Nat → Int → List Int → List Int → Option (Int × List Int × List Int)
  | 0, _, sum, ps, es => some (sum, ps, es)
  | d + 1, i, sum, ps, es => if (leastF (partL l n order i)).2 < 0 then none else tryL l n order d (i + 1) (sum + (4 + (leastF (partL l n order i)).2)) (ps ++ [(leastF (partL l n order i)).1]) (es ++ [-1])
structure TrySt (w : World) (b8 b10 : Nat) (o : Int) (wr : World) (vP vE : Value) (ps es : List Int) : Prop where
  bel : Below w.heap.size w wr
  z8 : wr.heap[b8]? = some (.cells zRice 24 (0, 0))
  r10 : wr.heap[b10]? = some (.cells #[.int .i64 0, .int .i64 o, vP, vE] 24 (0, 0))
  P : IntsAt wr w.heap.size vP ps
  E : IntsAt wr w.heap.size vE es
  d3 : Dis vP vE
theorem TrySt.below {w : World} {b8 b10 : Nat} {o : Int} {wr w' : World} {vP vE : Value} {ps es : List Int} (h : TrySt w b8 b10 o wr vP vE ps es) (hb : Below wr.heap.size wr w') : TrySt w b8 b10 o w' vP vE ps es :=
  ⟨h.bel.trans (hb.mono h.bel.size), blk_below h.z8 hb, blk_below h.r10 hb, h.P.below hb, h.E.below hb, h.d3⟩
theorem TrySt.two {w : World} {b8 b10 : Nat} {o o' : Int} {W0 W : World} {vP vE vP' vE' : Value} {ps es ps' es' : List Int} (h : TrySt w b8 b10 o W0 vP vE ps es) (h8 : b8 ≠ b10)
    (ht : TwoRows w.heap.size b10 24 W0 vP vE W #[.int .i64 0, .int .i64 o', vP', vE'] vP' vE' ps' es') : TrySt w b8 b10 o' W vP' vE' ps' es' := by
  refine ⟨h.bel.trans ht.below, blk_kept h.z8 ht.kept (fun hn => ?_), ht.box, ht.P, ht.E, ht.dis⟩
  rcases hn with e | e | e
  · exact h8 e
  · exact (Kd.R_ne h.P.all h.z8 (by decide)) e.symm
  · exact (Kd.R_ne h.E.all h.z8 (by decide)) e.symm
/-- How try ends. -/
def TryPost (o : Int) (X : Option (Int × List Int × List Int)) (C : Nat) (w : World) (e : Ending) (w' : World) : Prop :=
  (X = none ∧ e = .returned (.tuple #[.agg zRice, .int .i64 (-1)]) ∧ Below C w w') ∨
  ∃ sum ps es vP vE, X = some (sum, ps, es) ∧ e = .returned (.tuple #[.agg #[.int .i64 0, .int .i64 o, vP, vE], .int .i64 sum]) ∧ IntsAt w' C vP ps ∧ IntsAt w' C vE es ∧ Below C w w'
set_option maxHeartbeats 16000000 in
set_option maxRecDepth 100000 in
theorem try_no (o block order : Int) (l : List Int) (A : Option Addr) (c : Nat) (w : World) (h : ¬ shapeP 0 o block order ∨ (shapeP 0 o block order ∧ (l.length : Int) ≠ block - order)) :
    Calls Try.prog 46 #[.int .i64 o, .int .i64 block, .int .i64 order, .slice A l.length c] w fun e w' => e = .returned (.tuple #[.agg zRice, .int .i64 (-1)]) ∧ Below w.heap.size w w' := by
  have HCS : Aside0 (∀ W, Calls Try.prog 39 #[.agg #[.int .i64 0, .int .i64 o, .slice none 0 0, .slice none 0 0], .int .i64 block, .int .i64 order] W fun e w' => e = .returned (.bool (decide (shapeP 0 o block order))) ∧ Below W.heap.size W w') := ⟨fun W =>
    rice_shape.calls 0 o none 0 [] none 0 [] block order _ W ⟨rfl, by decide, fun h => absurd h (Nat.lt_irrefl _)⟩ (Nat.le_refl _) ⟨rfl, by decide, fun h => absurd h (Nat.lt_irrefl _)⟩ (Nat.le_refl _) (shape_eq 0 o [] [] block order (by omega) (by omega))⟩
  have hb1 : Below w.heap.size w ((w.alloc (.cells zRice 24 (0, 0))).alloc (.cells zRice 24 (0, 0))) := below_alloc (below_alloc (Below.refl _ _) _) _
  have hz : ((w.alloc (.cells zRice 24 (0, 0))).alloc (.cells zRice 24 (0, 0))).heap[w.heap.size]? = some (.cells zRice 24 (0, 0)) := blk_alloc (blk_new w _) _
  have hx : ((w.alloc (.cells zRice 24 (0, 0))).alloc (.cells zRice 24 (0, 0))).heap[w.heap.size + 1]? = some (.cells zRice 24 (0, 0)) := by simpa using blk_new (w.alloc (.cells zRice 24 (0, 0))) (.cells zRice 24 (0, 0))
  have HB1 := Aside0.mk (below_setRow hb1 (Nat.le_succ _) #[.int .i64 0, .int .i64 o, .slice none 0 0, .slice none 0 0])
  have HX1 := Aside0.mk (setRow_heap _ _ _ #[.int .i64 0, .int .i64 o, .slice none 0 0, .slice none 0 0] _ _ hx)
  have HZ1 : Aside0 (((((w.alloc (.cells zRice 24 (0, 0))).alloc (.cells zRice 24 (0, 0))).setRow (w.heap.size + 1) #[.int .i64 0, .int .i64 o, .slice none 0 0, .slice none 0 0]).heap[w.heap.size]?) = some (.cells zRice 24 (0, 0))) := ⟨by rw [setRow_other _ _ _ _ (by omega)]; exact hz⟩
  have HX := Aside0.mk hx
  clear hb1 hz hx
  have h2 : decide (shapeP 0 o block order) = false ∨ (decide (shapeP 0 o block order) = true ∧ (l.length : Int) ≠ block - order ∧ 1 ≤ block ∧ block ≤ 65535 ∧ 0 ≤ order ∧ order ≤ 32) := by
    rcases h with h | ⟨h, h9⟩
    · exact .inl (decide_eq_false h)
    · exact .inr ⟨decide_eq_true h, h9, h.2.2.2.1, h.2.2.2.2.1, h.2.2.2.2.2.1, h.2.2.2.2.2.2.1⟩
  clear h
  generalize decide (shapeP 0 o block order) = sb at HCS h2
  rcases h2 with rfl | ⟨rfl, h9, b0, b1, d0, d1⟩
  · go_enter Try.func46, Try.ntmps46
    go_upto_region 2 with ((with_reducible refine wpList_store_row ?_ 24 (.tmp 10) (.tmp 16) ?_ (w.heap.size + 1) #[.int .i64 0, .int .i64 o, .slice none 0 0, .slice none 0 0] ?_ ?_ 24 zRice HX.out (rc_info _ _ _ _) ?_ (rc_one _ _ _ _ _ _ _ _) ?_); rfl; rfl; rfl; rfl; rfl)
    generalize ((w.alloc (.cells zRice 24 (0, 0))).alloc (.cells zRice 24 (0, 0))).setRow (w.heap.size + 1) #[.int .i64 0, .int .i64 o, .slice none 0 0, .slice none 0 0] = w1 at *
    have c0 := blk_cell HX1.out 0
    have c1 := blk_cell HX1.out 1
    have c2 := blk_cell HX1.out 2
    have c3 := blk_cell HX1.out 3
    go_wp2_with fail
    with_reducible refine (HCS.out _).mono ?_
    rintro e w2 ⟨rfl, hb2⟩
    have HZ2 := Aside0.mk (blk_below HZ1.out hb2)
    have HB2 := Aside0.mk (HB1.out.trans (hb2.mono HB1.out.size))
    clear hb2 c0 c1 c2 c3 HX1 HZ1 HB1 HCS HX
    go_wp2_with ((with_reducible refine wpList_store_row ?_ 24 (.tmp 8) (.tmp 30) ?_ w.heap.size zRice ?_ ?_ 24 zRice HZ2.out (rc_info _ _ _ _) ?_ (rc_one _ _ _ _ _ _ _ _) ?_); rfl; rfl; rfl; rfl; rfl)
    refine bodyPost_ret (results_ct rfl _ _ w.heap.size 24 zRice (0, 0) _ rfl (setRow_heap _ _ _ _ _ _ HZ2.out) Try.underlying24 rfl (rc_info _ _ _ _)) rfl ?_
    exact ⟨rfl, below_setRow HB2.out (Nat.le_refl _) _⟩
  · have hne : ((l.length : Int) != block - order) = true := bne_iff_ne.mpr h9
    clear h9
    go_enter Try.func46, Try.ntmps46
    go_upto_region 2 with ((with_reducible refine wpList_store_row ?_ 24 (.tmp 10) (.tmp 16) ?_ (w.heap.size + 1) #[.int .i64 0, .int .i64 o, .slice none 0 0, .slice none 0 0] ?_ ?_ 24 zRice HX.out (rc_info _ _ _ _) ?_ (rc_one _ _ _ _ _ _ _ _) ?_); rfl; rfl; rfl; rfl; rfl)
    generalize ((w.alloc (.cells zRice 24 (0, 0))).alloc (.cells zRice 24 (0, 0))).setRow (w.heap.size + 1) #[.int .i64 0, .int .i64 o, .slice none 0 0, .slice none 0 0] = w1 at *
    have c0 := blk_cell HX1.out 0
    have c1 := blk_cell HX1.out 1
    have c2 := blk_cell HX1.out 2
    have c3 := blk_cell HX1.out 3
    go_wp2_with fail
    with_reducible refine (HCS.out _).mono ?_
    rintro e w2 ⟨rfl, hb2⟩
    have HZ2 := Aside0.mk (blk_below HZ1.out hb2)
    have HB2 := Aside0.mk (HB1.out.trans (hb2.mono HB1.out.size))
    clear hb2 c0 c1 c2 c3 HX1 HZ1 HB1 HCS HX
    go_wp2_with ((with_reducible refine wpList_store_row ?_ 24 (.tmp 8) (.tmp 30) ?_ w.heap.size zRice ?_ ?_ 24 zRice HZ2.out (rc_info _ _ _ _) ?_ (rc_one _ _ _ _ _ _ _ _) ?_); rfl; rfl; rfl; rfl; rfl)
    refine bodyPost_ret (results_ct rfl _ _ w.heap.size 24 zRice (0, 0) _ rfl (setRow_heap _ _ _ _ _ _ HZ2.out) Try.underlying24 rfl (rc_info _ _ _ _)) rfl ?_
    exact ⟨rfl, below_setRow HB2.out (Nat.le_refl _) _⟩
end Go.Proofs.Ytfhekkoibmlmpaa.Hand

/- Contracts of layer 8, proved by hand: try, where the shape may be. -/
namespace Go.Proofs.Ytfhekkoibmlmpaa.Hand
open Go.RowKit Go.Proofs.Ytfhekkoibmlmpaa.Q Go.Proofs.YtfhekkoibmlmpaaW.PrintWords Go.Proofs.YtfhekkoibmlmpaaW.PrintLast Go.Proofs.YtfhekkoibmlmpaaW.PrintMore
set_option linter.unusedVariables false
set_option linter.unusedSimpArgs false

set_option maxHeartbeats 16000000 in
set_option maxRecDepth 100000 in
theorem try_go (O Bk Od n : Nat) (l : List Int) (A : Option Addr) (c : Nat) (w : World) (hsh : shapeP 0 O Bk Od) (hO : O ≤ 15) (hB : Bk ≤ 65535) (hd : Od ≤ 32) (hdiv : Bk = 2 ^ O * n) (hon : Od ≤ n) (hl : l.length + Od = Bk) (hc : l.length ≤ c) (hA : Kd.C (Kd.int .i64) w A l.length l)
    (hin : ∀ x ∈ l, -9223372036854775808 ≤ x ∧ x ≤ 9223372036854775807) :
    Calls Try.prog 46 #[.int .i64 O, .int .i64 Bk, .int .i64 Od, .slice A l.length c] w (TryPost O (tryL l n Od (2 ^ O) 0 6 [] []) w.heap.size w) := by
  have HCS : Aside0 (∀ W, Calls Try.prog 39 #[.agg #[.int .i64 0, .int .i64 O, .slice none 0 0, .slice none 0 0], .int .i64 Bk, .int .i64 Od] W fun e w' => e = .returned (.bool true) ∧ Below W.heap.size W w') := ⟨fun W =>
    rice_shape.calls 0 O none 0 [] none 0 [] Bk Od _ W ⟨rfl, by decide, fun h => absurd h (Nat.lt_irrefl _)⟩ (Nat.le_refl _) ⟨rfl, by decide, fun h => absurd h (Nat.lt_irrefl _)⟩ (Nat.le_refl _) (by rw [shape_eq 0 O [] [] Bk Od (by omega) (by omega), decide_eq_true hsh])⟩
  have hb0 : 1 ≤ Bk := by have := hsh.2.2.2.1; omega
  have hNp : 0 < 2 ^ O := Nat.two_pow_pos O
  have hN2 : 2 ^ O ≤ 32768 := by
    have := Nat.pow_le_pow_right (n := 2) (by decide) hO
    have e : (2 : Nat) ^ 15 = 32768 := by decide
    omega
  have HCUT : Aside0 (∀ (i : Nat) (W : World) (AP AE : Option Addr) (nP cP nE cE : Nat), Below w.heap.size w W → i < 2 ^ O → Calls Try.prog 32 #[.slice A l.length c, .agg #[.int .i64 0, .int .i64 O, .slice AP nP cP, .slice AE nE cE], .int .i64 Bk, .int .i64 Od, .int .i64 i] W fun e w' => ∃ A', e = .returned (.slice A' (partL l n Od i).length (partL l n Od i).length) ∧ Kd.C (Kd.int .i64) w' A' (partL l n Od i).length (partL l n Od i) ∧ (∀ ad', A' = some ad' → ∃ ad, A = some ad ∧ ad'.block = ad.block) ∧ Below W.heap.size W w') := ⟨fun i W AP AE nP cP nE cE hW hi =>
    cut_part l A c 0 O AP AE nP cP nE cE Bk Od i n hO hB hd hdiv hon hi hl hc W (Kd.C_below hA hW)⟩
  have hn6 : n ≤ 65535 := by
    have h3 : 1 * n ≤ 2 ^ O * n := Nat.mul_le_mul_right n hNp
    omega
  have HLEAST : Aside0 (∀ (i : Nat) (W : World) (A' : Option Addr), Kd.C (Kd.int .i64) W A' (partL l n Od i).length (partL l n Od i) → Calls Try.prog 63 #[.slice A' (partL l n Od i).length (partL l n Od i).length] W fun e w' => e = .returned (.tuple #[.int .i64 (leastF (partL l n Od i)).1, .int .i64 (leastF (partL l n Od i)).2]) ∧ Drawn0 W w') := ⟨fun i W A' hC => by
    have hlen := partL_length l n Od i
    obtain ⟨kk, hk⟩ := (least_ev (partL l n Od i) (by omega) (fun x hx => hin x (List.mem_of_mem_take (List.mem_of_mem_drop hx)))).rounds
    exact rice_least.calls kk A' (partL l n Od i).length (partL l n Od i) _ _ W hC (Nat.le_refl _) hk⟩
  have HLR : Aside0 (∀ i, 0 ≤ (leastF (partL l n Od i)).1 ∧ (leastF (partL l n Od i)).1 ≤ 14 ∧ -1 ≤ (leastF (partL l n Od i)).2 ∧ (leastF (partL l n Od i)).2 ≤ 1100000000000) := ⟨fun i => least_range _ (by have := partL_length l n Od i; omega)⟩
  have hne : ((l.length : Int) != (Bk : Int) - (Od : Int)) = false := bne_eq_false_iff_eq.mpr (by omega)
  have hsl : (1 : Int) * 2 ^ min ((O : Int)).toNat 64 = ((2 ^ O : Nat) : Int) := by
    rw [Int.toNat_natCast, Nat.min_eq_left (by omega), Int.one_mul]
    simp
  obtain ⟨X, hX⟩ : ∃ X, tryL l n Od (2 ^ O) 0 6 [] [] = X := ⟨_, rfl⟩
  rw [hX]
  have HX := Aside0.mk hX
  obtain ⟨N, hN⟩ : ∃ N, 2 ^ O = N := ⟨_, rfl⟩
  rw [hN] at HX hN2 hNp hsl HCUT
  clear hX hsh hdiv hN hA hin hon
  obtain ⟨oI, ho⟩ : ∃ oI : Int, (O : Int) = oI := ⟨_, rfl⟩
  have o0 : 0 ≤ oI := by omega
  have o1 : oI ≤ 64 := by omega
  rw [ho] at hsl HCS HCUT ⊢
  clear ho
  have hj9 : IntKind.i64.wrap (1 * 2 ^ min oI.toNat 64) = (N : Int) := by rw [hsl, IntKind.wrap_i64]; omega
  have hmin : min oI.toNat 64 = oI.toNat := Nat.min_eq_left (by omega)
  have hj0 : IntKind.i64.wrap (1 * 2 ^ oI.toNat) = (N : Int) := by rw [hmin] at hj9; exact hj9
  have hj1 : IntKind.i64.wrap (2 ^ min oI.toNat 64) = (N : Int) := by rw [Int.one_mul] at hj9; exact hj9
  have hj2 : IntKind.i64.wrap (2 ^ oI.toNat) = (N : Int) := by rw [Int.one_mul] at hj0; exact hj0
  have hj3 : wrap64 (1 * 2 ^ min oI.toNat 64) = (N : Int) := by rw [hsl]; unfold wrap64; omega
  have hj4 : wrap64 (2 ^ min oI.toNat 64) = (N : Int) := by rw [Int.one_mul] at hj3; exact hj3
  have HJ := Aside0.mk (And.intro hj9 (And.intro hj0 (And.intro hj1 (And.intro hj2 (And.intro hj3 hj4)))))
  clear hsl hmin hj9 hj0 hj1 hj2 hj3 hj4
  have hb1 : Below w.heap.size w ((w.alloc (.cells zRice 24 (0, 0))).alloc (.cells zRice 24 (0, 0))) := below_alloc (below_alloc (Below.refl _ _) _) _
  have hz : ((w.alloc (.cells zRice 24 (0, 0))).alloc (.cells zRice 24 (0, 0))).heap[w.heap.size]? = some (.cells zRice 24 (0, 0)) := blk_alloc (blk_new w _) _
  have hx : ((w.alloc (.cells zRice 24 (0, 0))).alloc (.cells zRice 24 (0, 0))).heap[w.heap.size + 1]? = some (.cells zRice 24 (0, 0)) := by simpa using blk_new (w.alloc (.cells zRice 24 (0, 0))) (.cells zRice 24 (0, 0))
  have HB1 := Aside0.mk (below_setRow hb1 (Nat.le_succ _) #[.int .i64 0, .int .i64 oI, .slice none 0 0, .slice none 0 0])
  have HX1 := Aside0.mk (setRow_heap _ _ _ #[.int .i64 0, .int .i64 oI, .slice none 0 0, .slice none 0 0] _ _ hx)
  have HZ1 : Aside0 (((((w.alloc (.cells zRice 24 (0, 0))).alloc (.cells zRice 24 (0, 0))).setRow (w.heap.size + 1) #[.int .i64 0, .int .i64 oI, .slice none 0 0, .slice none 0 0]).heap[w.heap.size]?) = some (.cells zRice 24 (0, 0))) := ⟨by rw [setRow_other _ _ _ _ (by omega)]; exact hz⟩
  have HXX := Aside0.mk hx
  have h810 : w.heap.size ≠ w.heap.size + 1 := by omega
  have hC10 : w.heap.size ≤ w.heap.size + 1 := by omega
  clear hb1 hz hx
  go_enter Try.func46, Try.ntmps46
  go_upto_region 2 with ((with_reducible refine wpList_store_row ?_ 24 (.tmp 10) (.tmp 16) ?_ (w.heap.size + 1) #[.int .i64 0, .int .i64 oI, .slice none 0 0, .slice none 0 0] ?_ ?_ 24 zRice HXX.out (rc_info _ _ _ _) ?_ (rc_one _ _ _ _ _ _ _ _) ?_); rfl; rfl; rfl; rfl; rfl)
  generalize ((w.alloc (.cells zRice 24 (0, 0))).alloc (.cells zRice 24 (0, 0))).setRow (w.heap.size + 1) #[.int .i64 0, .int .i64 oI, .slice none 0 0, .slice none 0 0] = w1 at *
  generalize w.heap.size + 1 = b10 at *
  have c0 := blk_cell HX1.out 0
  have c1 := blk_cell HX1.out 1
  have c2 := blk_cell HX1.out 2
  have c3 := blk_cell HX1.out 3
  go_wp2_with fail
  with_reducible refine (HCS.out _).mono ?_
  rintro e w2 ⟨rfl, hb2⟩
  have hst0 : TrySt w w.heap.size b10 oI w2 (.slice none 0 0) (.slice none 0 0) [] [] :=
    ⟨HB1.out.trans (hb2.mono HB1.out.size), blk_below HZ1.out hb2, blk_below HX1.out hb2, IntsAt.nil _ _, IntsAt.nil _ _, Dis.nil_left _⟩
  have HST := Aside0.mk hst0
  clear hb2 c0 c1 c2 c3 HX1 HZ1 HB1 HCS HXX hst0
  obtain ⟨hj9, hj0, hj1, hj2, hj3, hj4⟩ := HJ.out
  go_wp2
  clear hj9 hj0 hj1 hj2 hj3 hj4
  go_loopw [11, 33] (fun sv iv wr => ∃ (i : Nat) (sum : Int) (vP vE : Value) (ps es : List Int), i ≤ N ∧ iv = .int .i64 i ∧ sv = .int .i64 sum ∧ 0 ≤ sum ∧ sum ≤ 6 + i * 1100000000004 ∧ ps.length = i ∧ es.length = i ∧ Aside0 (TrySt w w.heap.size b10 oI wr vP vE ps es) ∧ Aside0 (tryL l n Od (N - i) i sum ps es = X)) (fun _ iv _ => N - (intOf iv).toNat)
  case atStart => exact ⟨0, 6, .slice none 0 0, .slice none 0 0, [], [], Nat.zero_le _, rfl, rfl, by omega, by omega, rfl, rfl, HST, ⟨by rw [Nat.sub_zero]; exact HX.out⟩⟩
  case round =>
    clear HST HX
    obtain ⟨i, sum, vP, vE, ps, es, hi, rfl, rfl, s0, s1, hps, hes, HST, HX⟩ := hrel
    have HPS := Aside0.mk hps
    have HES := Aside0.mk hes
    clear hps hes
    by_cases hlt : i < N
    · have i0 : (0 : Int) ≤ (i : Int) := by omega
      have i1 : (i : Int) < (N : Int) := by omega
      obtain ⟨d, hd⟩ : ∃ d, N - i = d + 1 := ⟨N - i - 1, by omega⟩
      have hd2 : N - (i + 1) = d := by omega
      have HD := Aside0.mk hd2
      have HX2 : Aside0 ((if (leastF (partL l n Od i)).2 < 0 then none else tryL l n Od d (i + 1) (sum + (4 + (leastF (partL l n Od i)).2)) (ps ++ [(leastF (partL l n Od i)).1]) (es ++ [-1])) = X) := ⟨by
        have := HX.out
        rw [hd] at this
        unfold tryL at this
        exact this⟩
      obtain ⟨k0, k1, b0, b1⟩ := HLR.out i
      have HCi := Aside0.mk (fun (W : World) (AP AE : Option Addr) (nP cP nE cE : Nat) (h : Below w.heap.size w W) => HCUT.out i W AP AE nP cP nE cE h hlt)
      have HLi := Aside0.mk (HLEAST.out i)
      clear HX hd hd2
      generalize leastF (partL l n Od i) = lf at HLi HX2 k0 k1 b0 b1
      obtain ⟨kk, bb⟩ := lf
      simp only at HLi HX2 k0 k1 b0 b1
      generalize (partL l n Od i).length = pn at HLi HCi
      generalize partL l n Od i = pl at HLi HCi
      obtain ⟨AP, nP, cP, eP⟩ := HST.out.P.shape
      subst eP
      obtain ⟨AE, nE, cE, eE⟩ := HST.out.E.shape
      subst eE
      have c0 := blk_cell HST.out.r10 0
      have c1 := blk_cell HST.out.r10 1
      have c2 := blk_cell HST.out.r10 2
      have c3 := blk_cell HST.out.r10 3
      have HCC := Aside0.mk (HCi.out wr AP AE nP cP nE cE HST.out.bel)
      go_wp2_with fail
      with_reducible refine HCC.out.mono ?_
      rintro e w4 ⟨A4, rfl, hC4, _, hb4⟩
      have HST4 := Aside0.mk (HST.out.below hb4)
      have HLL := Aside0.mk (HLi.out w4 A4 hC4)
      clear hC4 hb4 HST HCC HCi HLi c0 c1 c2 c3
      go_wp2_with fail
      with_reducible refine HLL.out.mono ?_
      rintro e w5 ⟨rfl, hd5⟩
      have HST5 := Aside0.mk (HST4.out.below hd5.below)
      clear hd5 HST4 HLL
      by_cases hbb : bb < 0
      · have HXN : Aside0 (X = none) := ⟨by have := HX2.out; rw [if_pos hbb] at this; exact this.symm⟩
        go_wp2_with ((with_reducible refine wpList_store_row ?_ 24 (.tmp 8) (.tmp 48) ?_ w.heap.size zRice ?_ ?_ 24 zRice HST5.out.z8 (rc_info _ _ _ _) ?_ (rc_one _ _ _ _ _ _ _ _) ?_); rfl; rfl; rfl; rfl; rfl)
        refine bodyPost_ret (results_ct rfl _ _ w.heap.size 24 zRice (0, 0) _ rfl (setRow_heap _ _ _ _ _ _ HST5.out.z8) Try.underlying24 rfl (rc_info _ _ _ _)) rfl ?_
        exact .inl ⟨HXN.out, rfl, below_setRow HST5.out.bel (Nat.le_refl _) _⟩
      · have HX3 : Aside0 (tryL l n Od d (i + 1) (sum + (4 + bb)) (ps ++ [kk]) (es ++ [-1]) = X) := ⟨by have := HX2.out; rw [if_neg hbb] at this; exact this⟩
        have hiN : (i : Int) * 1100000000004 ≤ 32768 * 1100000000004 := by omega
        clear HX2
        go_upto_region 12 with fail
        have hst8 := HST5.out.below (below_drew (Below.refl w5.heap.size w5))
        have HST8 := Aside0.mk hst8
        have hst := TwoRows.start hst8.r10 (by decide) hst8.P hst8.E hst8.d3 hC10
        have hpl : ps.length ≤ 65536 := by have := HPS.out; omega
        have hel : es.length ≤ 65536 := by have := HES.out; omega
        clear hst8 HST5
        refine start_ (n := 13) (S := fun w' => w'.cell? ⟨b10, 2, none⟩ = some ((Value.slice AP nP cP)) ∧ w'.cell? ⟨b10, 3, none⟩ = some ((Value.slice AE nE cE))) (ds := [10, 12]) #[false, false, false, false, false, false, false, false, false, false, false, false, false] (by kernel_rfl) rfl rfl ⟨blk_cell hst.box 2, blk_cell hst.box 3⟩ (fun hHeld => ?_)
        refine pure_ (i := 0) (N := some 53) (v := ?_) (a' := ?_) #[true, false, false, false, false, false, false, false, false, false, false, false, false] rfl rfl (by kernel_rfl) (fun _ _ _ h => h) (Or.inl ⟨by rfl, ?_⟩) ?_ ?_
        rotate_left
        · intro w'
          go_simp
          with_reducible rfl
        rotate_left
        · simp only [Act.put, List.setIfInBounds_toArray, List.set_cons_zero, List.set_cons_succ, i64_w, i32_w]
          rfl
        refine pure_ (i := 2) (N := some 55) (v := ?_) (a' := ?_) #[true, false, true, false, false, false, false, false, false, false, false, false, false] rfl rfl (by kernel_rfl) (fun _ _ _ h => h) (Or.inl ⟨by rfl, ?_⟩) ?_ ?_
        rotate_left
        · intro w'
          go_simp
          with_reducible rfl
        rotate_left
        · simp only [Act.put, List.setIfInBounds_toArray, List.set_cons_zero, List.set_cons_succ, i64_w, i32_w]
          rfl
        refine pure_ (i := 5) (N := some 58) (v := ?_) (a' := ?_) #[true, false, true, false, false, true, false, false, false, false, false, false, false] rfl rfl (by kernel_rfl) (fun _ _ _ h => h) (Or.inl ⟨by rfl, ?_⟩) ?_ ?_
        rotate_left
        · intro w'
          go_simp
          with_reducible rfl
        rotate_left
        · simp only [Act.put, List.setIfInBounds_toArray, List.set_cons_zero, List.set_cons_succ, i64_w, i32_w]
          rfl
        refine take_ (i := 1) (N := some 54) (v := ?_) (a' := ?_) #[true, true, true, false, false, true, false, false, false, false, false, false, false] rfl rfl (by kernel_rfl) (fun _ _ _ h => h) (Or.inl ⟨by rfl, ?_⟩) hHeld ?_ ?_
        rotate_left
        · rintro w' ⟨s0, s1⟩
          go_simp
          with_reducible rfl
        rotate_left
        · simp only [Act.put, List.setIfInBounds_toArray, List.set_cons_zero, List.set_cons_succ, i64_w, i32_w]
          rfl
        refine take_ (i := 6) (N := some 59) (v := ?_) (a' := ?_) #[true, true, true, false, false, true, true, false, false, false, false, false, false] rfl rfl (by kernel_rfl) (fun _ _ _ h => h) (Or.inl ⟨by rfl, ?_⟩) hHeld ?_ ?_
        rotate_left
        · rintro w' ⟨s0, s1⟩
          go_simp
          with_reducible rfl
        rotate_left
        · simp only [Act.put, List.setIfInBounds_toArray, List.set_cons_zero, List.set_cons_succ, i64_w, i32_w]
          rfl
        refine join_ (σ := Nat × Value × Nat) 4 #[true, true, true, true, true, true, true, true, false, true, false, false, false] (fun s_ => [(56, .slice (some ⟨s_.1, 0, none⟩) 1 1), (57, s_.2.1), (60, .slice (some ⟨s_.2.2, 0, none⟩) 1 1), (62, .pointer (some ⟨b10, 2, none⟩))]) (fun s_ w' => (w'.cell? ⟨b10, 2, none⟩ = some ((Value.slice AP nP cP)) ∧ w'.cell? ⟨b10, 3, none⟩ = some ((Value.slice AE nE cE))) ∧ TwoRows w.heap.size b10 24 w5.drew ((Value.slice AP nP cP)) ((Value.slice AE nE cE)) w' #[.int .i64 0, .int .i64 oI, (Value.slice AP nP cP), (Value.slice AE nE cE)] s_.2.1 ((Value.slice AE nE cE)) (ps ++ [kk]) (es) ∧ w'.heap[s_.2.2]? = some (.cells #[.int .i64 (-1)] 3 (0, 0))) ?_ ?_
        rotate_left
        · intro hCont
          refine two_ (i := 3) (j := 7) (Ni := some 56) (Nj := some 60) #[true, true, true, true, false, true, true, false, false, false, false, false, false] #[true, true, true, false, false, true, true, true, false, false, false, false, false] rfl rfl rfl rfl (by kernel_rfl) (by decide) (by decide) (fun K hK => ?_) (fun K hK => ?_)
          · skip
            refine value_ (w1 := ?_) (v := ?_) (by rfl) rfl ?_ ?_
            rotate_left 2
            · go_simp
              constructor
              · rfl
              · rfl
            have hb1 : (w5.drew.alloc (.cells #[.int .i64 (kk)] 3 (0, 0))).heap[w5.heap.size]? = some (.cells #[.int .i64 (kk)] 3 (0, 0)) := by simpa using blk_new w5.drew (.cells #[.int .i64 (kk)] 3 (0, 0))
            have hs9 := hst.new (below_alloc (Below.refl _ _) (.cells #[.int .i64 (kk)] 3 (0, 0)))
            clear hst
            have hst := hs9
            clear hs9
            refine hK.out _ _ ⟨blk_cell hst.box 2, blk_cell hst.box 3⟩ (fun hHeld => ?_)
            clear hK K
            refine norm_ (a' := ?_) ?_ ?_
            rotate_left
            · show Act.put _ (some 56) _ = _
              simp only [Act.put, List.setIfInBounds_toArray, List.set_cons_zero, List.set_cons_succ, i64_w, i32_w]
              rfl
            refine two_ (i := 4) (j := 7) (Ni := some 57) (Nj := some 60) #[true, true, true, true, true, true, true, false, false, false, false, false, false] #[true, true, true, true, false, true, true, true, false, false, false, false, false] rfl rfl rfl rfl (by kernel_rfl) (by decide) (by decide) (fun K hK => ?_) (fun K hK => ?_)
            · skip
              refine app_lit_step (C := w.heap.size) (.tmp 54) (.tmp 56) (v := (Value.slice AP nP cP)) (xs := ps) (kk) ?_ ?_ ?_ ?_ hst.P hb1 hst.le (by omega) ?_
              · rfl
              · rfl
              · rfl
              · rfl
              intro v1 w1 hr1 hg1 ho1
              have hs9 := hst.growP hr1 hg1 ho1
              clear hr1 hg1 ho1 hst hb1
              have hst := hs9
              clear hs9
              refine hK.out _ _ ⟨blk_cell hst.box 2, blk_cell hst.box 3⟩ (fun hHeld => ?_)
              clear hK K
              refine norm_ (a' := ?_) ?_ ?_
              rotate_left
              · show Act.put _ (some 57) _ = _
                simp only [Act.put, List.setIfInBounds_toArray, List.set_cons_zero, List.set_cons_succ, i64_w, i32_w]
                rfl
              refine pure_ (i := 9) (N := some 62) (v := ?_) (a' := ?_) #[true, true, true, true, true, true, true, false, false, true, false, false, false] rfl rfl (by kernel_rfl) (fun _ _ _ h => h) (Or.inl ⟨by rfl, ?_⟩) ?_ ?_
              rotate_left
              · intro w'
                go_simp
                with_reducible rfl
              rotate_left
              · simp only [Act.put, List.setIfInBounds_toArray, List.set_cons_zero, List.set_cons_succ, i64_w, i32_w]
                rfl
              refine one_ (i := 7) (N := some 60) #[true, true, true, true, true, true, true, true, false, true, false, false, false] rfl rfl (by kernel_rfl) (by decide) (fun K hK => ?_)
              refine value_ (w1 := ?_) (v := ?_) (by rfl) rfl ?_ ?_
              rotate_left 2
              · go_simp
                constructor
                · rfl
                · rfl
              have hb2 : (w1.alloc (.cells #[.int .i64 (-1)] 3 (0, 0))).heap[w1.heap.size]? = some (.cells #[.int .i64 (-1)] 3 (0, 0)) := by simpa using blk_new w1 (.cells #[.int .i64 (-1)] 3 (0, 0))
              have hs9 := hst.new (below_alloc (Below.refl _ _) (.cells #[.int .i64 (-1)] 3 (0, 0)))
              clear hst
              have hst := hs9
              clear hs9
              refine hK.out _ _ ⟨blk_cell hst.box 2, blk_cell hst.box 3⟩ (fun hHeld => ?_)
              clear hK K
              refine norm_ (a' := ?_) ?_ ?_
              rotate_left
              · show Act.put _ (some 60) _ = _
                simp only [Act.put, List.setIfInBounds_toArray, List.set_cons_zero, List.set_cons_succ, i64_w, i32_w]
                rfl
              exact norm_ (by simp only [putAll, Act.put, List.setIfInBounds_toArray, List.set_cons_zero, List.set_cons_succ]) (hCont (⟨w5.heap.size, v1, w1.heap.size⟩ : Nat × Value × Nat) _ ⟨⟨blk_cell hst.box 2, blk_cell hst.box 3⟩, hst, hb2⟩)
            · skip
              refine value_ (w1 := ?_) (v := ?_) (by rfl) rfl ?_ ?_
              rotate_left 2
              · go_simp
                constructor
                · rfl
                · rfl
              have hb2 : ((w5.drew.alloc (.cells #[.int .i64 (kk)] 3 (0, 0))).alloc (.cells #[.int .i64 (-1)] 3 (0, 0))).heap[w5.heap.size + 1]? = some (.cells #[.int .i64 (-1)] 3 (0, 0)) := by simpa using blk_new (w5.drew.alloc (.cells #[.int .i64 (kk)] 3 (0, 0))) (.cells #[.int .i64 (-1)] 3 (0, 0))
              have hd2 : ∀ j, ((Value.slice AP nP cP)).ownBlock = some j → j ≠ w5.heap.size + 1 := fun j hj => Nat.ne_of_lt (by have h9 := hst.P.lt j hj; simp at h9; omega)
              have hb1' : ((w5.drew.alloc (.cells #[.int .i64 (kk)] 3 (0, 0))).alloc (.cells #[.int .i64 (-1)] 3 (0, 0))).heap[_]? = some _ := blk_alloc hb1 (.cells #[.int .i64 (-1)] 3 (0, 0))
              clear hb1
              have hb1 := hb1'
              clear hb1'
              have hs9 := hst.new (below_alloc (Below.refl _ _) (.cells #[.int .i64 (-1)] 3 (0, 0)))
              clear hst
              have hst := hs9
              clear hs9
              refine hK.out _ _ ⟨blk_cell hst.box 2, blk_cell hst.box 3⟩ (fun hHeld => ?_)
              clear hK K
              refine norm_ (a' := ?_) ?_ ?_
              rotate_left
              · show Act.put _ (some 60) _ = _
                simp only [Act.put, List.setIfInBounds_toArray, List.set_cons_zero, List.set_cons_succ, i64_w, i32_w]
                rfl
              refine one_ (i := 4) (N := some 57) #[true, true, true, true, true, true, true, true, false, false, false, false, false] rfl rfl (by kernel_rfl) (by decide) (fun K hK => ?_)
              refine app_lit_step (C := w.heap.size) (.tmp 54) (.tmp 56) (v := (Value.slice AP nP cP)) (xs := ps) (kk) ?_ ?_ ?_ ?_ hst.P hb1 hst.le (by omega) ?_
              · rfl
              · rfl
              · rfl
              · rfl
              intro v1 w1 hr1 hg1 ho1
              have hb2' := lit_kept hb2 hd2 hg1
              clear hb2 hd2
              have hb2 := hb2'
              clear hb2'
              have hs9 := hst.growP hr1 hg1 ho1
              clear hr1 hg1 ho1 hst hb1
              have hst := hs9
              clear hs9
              refine hK.out _ _ ⟨blk_cell hst.box 2, blk_cell hst.box 3⟩ (fun hHeld => ?_)
              clear hK K
              refine norm_ (a' := ?_) ?_ ?_
              rotate_left
              · show Act.put _ (some 57) _ = _
                simp only [Act.put, List.setIfInBounds_toArray, List.set_cons_zero, List.set_cons_succ, i64_w, i32_w]
                rfl
              refine pure_ (i := 9) (N := some 62) (v := ?_) (a' := ?_) #[true, true, true, true, true, true, true, true, false, true, false, false, false] rfl rfl (by kernel_rfl) (fun _ _ _ h => h) (Or.inl ⟨by rfl, ?_⟩) ?_ ?_
              rotate_left
              · intro w'
                go_simp
                with_reducible rfl
              rotate_left
              · simp only [Act.put, List.setIfInBounds_toArray, List.set_cons_zero, List.set_cons_succ, i64_w, i32_w]
                rfl
              exact norm_ (by simp only [putAll, Act.put, List.setIfInBounds_toArray, List.set_cons_zero, List.set_cons_succ]) (hCont (⟨w5.heap.size, v1, w5.heap.size + 1⟩ : Nat × Value × Nat) _ ⟨⟨blk_cell hst.box 2, blk_cell hst.box 3⟩, hst, hb2⟩)
          · skip
            refine value_ (w1 := ?_) (v := ?_) (by rfl) rfl ?_ ?_
            rotate_left 2
            · go_simp
              constructor
              · rfl
              · rfl
            have hb2 : (w5.drew.alloc (.cells #[.int .i64 (-1)] 3 (0, 0))).heap[w5.heap.size]? = some (.cells #[.int .i64 (-1)] 3 (0, 0)) := by simpa using blk_new w5.drew (.cells #[.int .i64 (-1)] 3 (0, 0))
            have hd2 : ∀ j, ((Value.slice AP nP cP)).ownBlock = some j → j ≠ w5.heap.size := fun j hj => Nat.ne_of_lt (by have h9 := hst.P.lt j hj; simp at h9; omega)
            have hs9 := hst.new (below_alloc (Below.refl _ _) (.cells #[.int .i64 (-1)] 3 (0, 0)))
            clear hst
            have hst := hs9
            clear hs9
            refine hK.out _ _ ⟨blk_cell hst.box 2, blk_cell hst.box 3⟩ (fun hHeld => ?_)
            clear hK K
            refine norm_ (a' := ?_) ?_ ?_
            rotate_left
            · show Act.put _ (some 60) _ = _
              simp only [Act.put, List.setIfInBounds_toArray, List.set_cons_zero, List.set_cons_succ, i64_w, i32_w]
              rfl
            refine one_ (i := 3) (N := some 56) #[true, true, true, true, false, true, true, true, false, false, false, false, false] rfl rfl (by kernel_rfl) (by decide) (fun K hK => ?_)
            refine value_ (w1 := ?_) (v := ?_) (by rfl) rfl ?_ ?_
            rotate_left 2
            · go_simp
              constructor
              · rfl
              · rfl
            have hb1 : ((w5.drew.alloc (.cells #[.int .i64 (-1)] 3 (0, 0))).alloc (.cells #[.int .i64 (kk)] 3 (0, 0))).heap[w5.heap.size + 1]? = some (.cells #[.int .i64 (kk)] 3 (0, 0)) := by simpa using blk_new (w5.drew.alloc (.cells #[.int .i64 (-1)] 3 (0, 0))) (.cells #[.int .i64 (kk)] 3 (0, 0))
            have hb2' : ((w5.drew.alloc (.cells #[.int .i64 (-1)] 3 (0, 0))).alloc (.cells #[.int .i64 (kk)] 3 (0, 0))).heap[_]? = some _ := blk_alloc hb2 (.cells #[.int .i64 (kk)] 3 (0, 0))
            clear hb2
            have hb2 := hb2'
            clear hb2'
            have hs9 := hst.new (below_alloc (Below.refl _ _) (.cells #[.int .i64 (kk)] 3 (0, 0)))
            clear hst
            have hst := hs9
            clear hs9
            refine hK.out _ _ ⟨blk_cell hst.box 2, blk_cell hst.box 3⟩ (fun hHeld => ?_)
            clear hK K
            refine norm_ (a' := ?_) ?_ ?_
            rotate_left
            · show Act.put _ (some 56) _ = _
              simp only [Act.put, List.setIfInBounds_toArray, List.set_cons_zero, List.set_cons_succ, i64_w, i32_w]
              rfl
            refine one_ (i := 4) (N := some 57) #[true, true, true, true, true, true, true, true, false, false, false, false, false] rfl rfl (by kernel_rfl) (by decide) (fun K hK => ?_)
            refine app_lit_step (C := w.heap.size) (.tmp 54) (.tmp 56) (v := (Value.slice AP nP cP)) (xs := ps) (kk) ?_ ?_ ?_ ?_ hst.P hb1 hst.le (by omega) ?_
            · rfl
            · rfl
            · rfl
            · rfl
            intro v1 w1 hr1 hg1 ho1
            have hb2' := lit_kept hb2 hd2 hg1
            clear hb2 hd2
            have hb2 := hb2'
            clear hb2'
            have hs9 := hst.growP hr1 hg1 ho1
            clear hr1 hg1 ho1 hst hb1
            have hst := hs9
            clear hs9
            refine hK.out _ _ ⟨blk_cell hst.box 2, blk_cell hst.box 3⟩ (fun hHeld => ?_)
            clear hK K
            refine norm_ (a' := ?_) ?_ ?_
            rotate_left
            · show Act.put _ (some 57) _ = _
              simp only [Act.put, List.setIfInBounds_toArray, List.set_cons_zero, List.set_cons_succ, i64_w, i32_w]
              rfl
            refine pure_ (i := 9) (N := some 62) (v := ?_) (a' := ?_) #[true, true, true, true, true, true, true, true, false, true, false, false, false] rfl rfl (by kernel_rfl) (fun _ _ _ h => h) (Or.inl ⟨by rfl, ?_⟩) ?_ ?_
            rotate_left
            · intro w'
              go_simp
              with_reducible rfl
            rotate_left
            · simp only [Act.put, List.setIfInBounds_toArray, List.set_cons_zero, List.set_cons_succ, i64_w, i32_w]
              rfl
            exact norm_ (by simp only [putAll, Act.put, List.setIfInBounds_toArray, List.set_cons_zero, List.set_cons_succ]) (hCont (⟨w5.heap.size + 1, v1, w5.heap.size⟩ : Nat × Value × Nat) _ ⟨⟨blk_cell hst.box 2, blk_cell hst.box 3⟩, hst, hb2⟩)
        rintro ⟨b1, v1, b2⟩ w5 ⟨hHeld, hst, hb2⟩
        refine norm_ (a' := ?_) ?_ ?_
        rotate_left
        · simp only [putAll, Act.put, List.setIfInBounds_toArray, List.set_cons_zero, List.set_cons_succ]
          rfl
        refine one_ (i := 8) (N := some 61) #[true, true, true, true, true, true, true, true, true, true, false, false, false] rfl rfl (by kernel_rfl) (by decide) (fun K hK => ?_)
        refine app_lit_step (C := w.heap.size) (.tmp 59) (.tmp 60) (v := (Value.slice AE nE cE)) (xs := es) (-1) ?_ ?_ ?_ ?_ hst.E hb2 hst.le (by omega) ?_
        · rfl
        · rfl
        · rfl
        · rfl
        intro v2 w6 hr2 hg2 ho2
        have hs9 := hst.growE hr2 hg2 ho2
        clear hr2 hg2 ho2 hst hb2
        have hst := hs9
        clear hs9
        obtain ⟨A1_, n1_, c1_, e1_⟩ := hst.P.shape
        subst e1_
        obtain ⟨A2_, n2_, c2_, e2_⟩ := hst.E.shape
        subst e2_
        have cP_ := blk_cell hst.box 2
        have cE_ := blk_cell hst.box 3
        have fP_ := blk_frozen hst.box 2
        have fE_ := blk_frozen hst.box 3
        refine hK.out _ _ ⟨blk_cell hst.box 2, blk_cell hst.box 3⟩ (fun hHeld => ?_)
        clear hK K
        refine norm_ (a' := ?_) ?_ ?_
        rotate_left
        · show Act.put _ (some 61) _ = _
          simp only [Act.put, List.setIfInBounds_toArray, List.set_cons_zero, List.set_cons_succ, i64_w, i32_w]
          rfl
        refine last_ (i := 10) (N := none) #[true, true, true, true, true, true, true, true, true, true, true, false, false] rfl rfl (by kernel_rfl) (by decide) (fun K hK => ?_)
        refine skip_ (w1 := ?_) (by rfl) rfl ?_ ?_
        rotate_left
        · go_simp
          rfl
        refine hK.out _ _ ?_
        clear hK K
        refine pure_ (i := 11) (N := some 63) (v := ?_) (a' := ?_) #[true, true, true, true, true, true, true, true, true, true, true, true, false] rfl rfl (by kernel_rfl) (fun _ _ _ h => h) (Or.inl ⟨by rfl, ?_⟩) ?_ ?_
        rotate_left
        · intro w'
          go_simp
          with_reducible rfl
        rotate_left
        · simp only [Act.put, List.setIfInBounds_toArray, List.set_cons_zero, List.set_cons_succ, i64_w, i32_w]
          rfl
        refine last_ (i := 12) (N := none) #[true, true, true, true, true, true, true, true, true, true, true, true, true] rfl rfl (by kernel_rfl) (by decide) (fun K hK => ?_)
        refine skip_ (w1 := ?_) (by rfl) rfl ?_ ?_
        rotate_left
        · go_simp
          rfl
        refine hK.out _ _ ?_
        clear hK K
        refine done_ (by kernel_rfl) ?_
        have hs9 := (hst.put 2 (.slice A1_ n1_ c1_) (cells2 := #[.int .i64 0, .int .i64 oI, (.slice A1_ n1_ c1_), (Value.slice AE nE cE)]) rfl).put 3 (.slice A2_ n2_ c2_) (cells2 := #[.int .i64 0, .int .i64 oI, (.slice A1_ n1_ c1_), (.slice A2_ n2_ c2_)]) rfl
        clear hst cP_ cE_ fP_ fE_
        have hst := hs9
        clear hs9
        have HST9 := Aside0.mk (HST8.out.two h810 hst)
        clear hst HST8
        go_wp2
        go_roundw
        case rel => exact ⟨i + 1, sum + (4 + bb), _, _, ps ++ [kk], es ++ [-1], by omega, by go_num, rfl, by omega, by omega, by rw [List.length_append, HPS.out]; rfl, by rw [List.length_append, HES.out]; rfl, HST9, ⟨by rw [HD.out]; exact HX3.out⟩⟩
        case measure => simp [intOf]; omega
    · obtain rfl : i = N := by omega
      have hXS : X = some (sum, ps, es) := by have := HX.out; rw [Nat.sub_self] at this; exact this.symm
      have HXS := Aside0.mk hXS
      clear hXS HX
      obtain ⟨AP_, nP_, cP_, eP_⟩ := HST.out.P.shape
      subst eP_
      obtain ⟨AE_, nE_, cE_, eE_⟩ := HST.out.E.shape
      subst eE_
      have c0 := blk_cell HST.out.r10 0
      have c1 := blk_cell HST.out.r10 1
      have c2 := blk_cell HST.out.r10 2
      have c3 := blk_cell HST.out.r10 3
      have i2 : ¬ (i : Int) < (i : Int) := Int.lt_irrefl _
      go_wp2_with ((with_reducible refine wpList_store_row ?_ 24 (.tmp 8) (.tmp 65) ?_ w.heap.size #[.int .i64 0, .int .i64 oI, .slice AP_ nP_ cP_, .slice AE_ nE_ cE_] ?_ ?_ 24 zRice HST.out.z8 (rc_info _ _ _ _) ?_ (rc_one _ _ _ _ _ _ _ _) ?_); rfl; rfl; rfl; rfl; rfl)
      refine bodyPost_ret (results_ct rfl _ _ w.heap.size 24 #[.int .i64 0, .int .i64 oI, .slice AP_ nP_ cP_, .slice AE_ nE_ cE_] (0, 0) _ rfl (setRow_heap _ _ _ _ _ _ HST.out.z8) Try.underlying24 rfl (rc_info _ _ _ _)) rfl ?_
      exact .inr ⟨sum, ps, es, _, _, HXS.out, rfl, HST.out.P.setRow HST.out.z8 (by decide), HST.out.E.setRow HST.out.z8 (by decide), below_setRow HST.out.bel (Nat.le_refl _) _⟩
end Go.Proofs.Ytfhekkoibmlmpaa.Hand

/- Contracts of layer 8, proved by hand: try, whatever comes; what the best recipe is. -/
namespace Go.Proofs.Ytfhekkoibmlmpaa.Hand
open Go.RowKit Go.Proofs.Ytfhekkoibmlmpaa.Q Go.Proofs.YtfhekkoibmlmpaaW.PrintWords Go.Proofs.YtfhekkoibmlmpaaW.PrintLast Go.Proofs.YtfhekkoibmlmpaaW.PrintMore
set_option linter.unusedVariables false
set_option linter.unusedSimpArgs false

/-- The number of bits, the parameters, the escapes of the best recipe of one order; none: there is none. -/
def tryF (block order : Int) (l : List Int) (o : Int) : Option (Int × List Int × List Int) :=
  if shapeP 0 o block order ∧ (l.length : Int) = block - order then tryL l (block / 2 ^ o.toNat).toNat order.toNat (2 ^ o.toNat) 0 6 [] [] else none
theorem try_any (o block order : Int) (l : List Int) (A : Option Addr) (c : Nat) (w : World) (hc : l.length ≤ c) (hA : Kd.C (Kd.int .i64) w A l.length l)
    (hin : ∀ x ∈ l, -9223372036854775808 ≤ x ∧ x ≤ 9223372036854775807) :
    Calls Try.prog 46 #[.int .i64 o, .int .i64 block, .int .i64 order, .slice A l.length c] w (TryPost o (tryF block order l o) w.heap.size w) := by
  by_cases h : shapeP 0 o block order ∧ (l.length : Int) = block - order
  · have e : tryF block order l o = tryL l (block / 2 ^ o.toNat).toNat order.toNat (2 ^ o.toNat) 0 6 [] [] := if_pos h
    rw [e]
    obtain ⟨hsh, hlen⟩ := h
    obtain ⟨O, Bk, Od, n, rfl, rfl, rfl, hO15, hB0, hB1, hOd, hdiv, hdn, hn, hm⟩ := shape_nat hsh
    rw [hn, Int.toNat_natCast, Int.toNat_natCast]
    exact try_go O Bk Od n l A c w hsh hO15 hB1 hOd hdiv hdn (by omega) hc hA hin
  · have e : tryF block order l o = none := if_neg h
    rw [e]
    refine (try_no o block order l A c w ?_).mono fun e w' ⟨h1, h2⟩ => .inl ⟨rfl, h1, h2⟩
    by_cases hs : shapeP 0 o block order
    · exact .inr ⟨hs, fun hl => h ⟨hs, hl⟩⟩
    · exact .inl hs
/-- A recipe with its bits: the order, the parameters, the escapes, how many bits (-1: none). -/
def betterF (b : Int × List Int × List Int × Int) (o : Int) : Option (Int × List Int × List Int) → Int × List Int × List Int × Int
  | none => b
  | some (n, ps, es) => if 0 ≤ n ∧ (b.2.2.2 < 0 ∨ n < b.2.2.2) then (o, ps, es, n) else b
def bestL (block order : Int) (l : List Int) : Nat → Nat → Int × List Int × List Int × Int → Int × List Int × List Int × Int
  | 0, _, b => b
  | d + 1, o, b => bestL block order l d (o + 1) (betterF b (o : Int) (tryF block order l (o : Int)))
def bestF (block order : Int) (l : List Int) : Int × List Int × List Int × Int := bestL block order l 5 0 (0, [], [], -1)
end Go.Proofs.Ytfhekkoibmlmpaa.Hand

/- Contracts of layer 8, proved by hand: Best. -/
namespace Go.Proofs.Ytfhekkoibmlmpaa.Hand
open Go.RowKit Go.Proofs.Ytfhekkoibmlmpaa.Q Go.Proofs.YtfhekkoibmlmpaaW.PrintWords Go.Proofs.YtfhekkoibmlmpaaW.PrintLast Go.Proofs.YtfhekkoibmlmpaaW.PrintMore
set_option linter.unusedVariables false
set_option linter.unusedSimpArgs false

structure BestSt (w : World) (b6 b8 : Nat) (o : Int) (wr : World) (vP vE : Value) (ps es : List Int) : Prop where
  bel : Below w.heap.size w wr
  z6 : wr.heap[b6]? = some (.cells zRice 24 (0, 0))
  r8 : wr.heap[b8]? = some (.cells #[.int .i64 0, .int .i64 o, vP, vE] 24 (0, 0))
  P : IntsAt wr w.heap.size vP ps
  E : IntsAt wr w.heap.size vE es
theorem BestSt.below {w : World} {b6 b8 : Nat} {o : Int} {wr w' : World} {vP vE : Value} {ps es : List Int} (h : BestSt w b6 b8 o wr vP vE ps es) (hb : Below wr.heap.size wr w') : BestSt w b6 b8 o w' vP vE ps es :=
  ⟨h.bel.trans (hb.mono h.bel.size), blk_below h.z6 hb, blk_below h.r8 hb, h.P.below hb, h.E.below hb⟩
theorem BestSt.put {w : World} {b6 b8 : Nat} {o o' : Int} {wr : World} {vP vE vP' vE' : Value} {ps es ps' es' : List Int} (h : BestSt w b6 b8 o wr vP vE ps es) (h68 : b6 ≠ b8) (h8 : w.heap.size ≤ b8) (hP : IntsAt wr w.heap.size vP' ps') (hE : IntsAt wr w.heap.size vE' es') :
    BestSt w b6 b8 o' (wr.setRow b8 #[.int .i64 0, .int .i64 o', vP', vE']) vP' vE' ps' es' :=
  ⟨below_setRow h.bel h8 _, by rw [setRow_other _ _ _ _ h68]; exact h.z6, setRow_heap _ _ _ _ _ _ h.r8, hP.setRow h.r8 (by decide), hE.setRow h.r8 (by decide)⟩
theorem better_take {bo o n sum : Int} {ps es ps' es' : List Int} (h : 0 ≤ sum ∧ (n < 0 ∨ sum < n)) : betterF (bo, ps, es, n) o (some (sum, ps', es')) = (o, ps', es', sum) := if_pos h
theorem better_keep {bo o n sum : Int} {ps es ps' es' : List Int} (h : ¬ (0 ≤ sum ∧ (n < 0 ∨ sum < n))) : betterF (bo, ps, es, n) o (some (sum, ps', es')) = (bo, ps, es, n) := if_neg h
set_option maxHeartbeats 16000000 in
set_option maxRecDepth 100000 in
theorem Best_any (block order : Int) (l : List Int) (A : Option Addr) (c : Nat) (w : World) (hc : l.length ≤ c) (hA : Kd.C (Kd.int .i64) w A l.length l)
    (hin : ∀ x ∈ l, -9223372036854775808 ≤ x ∧ x ≤ 9223372036854775807) :
    Calls Try.prog 26 #[.int .i64 block, .int .i64 order, .slice A l.length c] w fun e w' => ∃ vP vE,
      e = .returned (.tuple #[.agg #[.int .i64 0, .int .i64 (bestF block order l).1, vP, vE], .int .i64 (bestF block order l).2.2.2]) ∧
      IntsAt w' w.heap.size vP (bestF block order l).2.1 ∧ IntsAt w' w.heap.size vE (bestF block order l).2.2.1 ∧ Below w.heap.size w w' := by
  have HTRY : Aside0 (∀ (i : Nat) (W : World), Below w.heap.size w W → Calls Try.prog 46 #[.int .i64 i, .int .i64 block, .int .i64 order, .slice A l.length c] W (TryPost i (tryF block order l i) W.heap.size W)) := ⟨fun i W hW =>
    try_any i block order l A c W hc (Kd.C_below hA hW) hin⟩
  obtain ⟨X, hX⟩ : ∃ X, bestF block order l = X := ⟨_, rfl⟩
  rw [hX]
  have HX := Aside0.mk hX
  clear hX hA hin hc
  have hb1 : Below w.heap.size w ((w.alloc (.cells zRice 24 (0, 0))).alloc (.cells zRice 24 (0, 0))) := below_alloc (below_alloc (Below.refl _ _) _) _
  have hz : ((w.alloc (.cells zRice 24 (0, 0))).alloc (.cells zRice 24 (0, 0))).heap[w.heap.size]? = some (.cells zRice 24 (0, 0)) := blk_alloc (blk_new w _) _
  have hx : ((w.alloc (.cells zRice 24 (0, 0))).alloc (.cells zRice 24 (0, 0))).heap[w.heap.size + 1]? = some (.cells zRice 24 (0, 0)) := by simpa using blk_new (w.alloc (.cells zRice 24 (0, 0))) (.cells zRice 24 (0, 0))
  have hst0 : BestSt w w.heap.size (w.heap.size + 1) 0 (((w.alloc (.cells zRice 24 (0, 0))).alloc (.cells zRice 24 (0, 0))).setRow (w.heap.size + 1) zRice) (.slice none 0 0) (.slice none 0 0) [] [] :=
    ⟨below_setRow hb1 (Nat.le_succ _) _, by rw [setRow_other _ _ _ _ (by omega)]; exact hz, setRow_heap _ _ _ _ _ _ hx, IntsAt.nil _ _, IntsAt.nil _ _⟩
  have HST := Aside0.mk hst0
  have HXX := Aside0.mk hx
  have h68 : w.heap.size ≠ w.heap.size + 1 := by omega
  have hC8 : w.heap.size ≤ w.heap.size + 1 := by omega
  clear hb1 hz hx hst0
  go_enter Try.func26, Try.ntmps26
  go_upto_region 2 with ((with_reducible refine wpList_store_row ?_ 24 (.tmp 8) (.tmp 13) ?_ (w.heap.size + 1) zRice ?_ ?_ 24 zRice HXX.out (rc_info _ _ _ _) ?_ (rc_one _ _ _ _ _ _ _ _) ?_); rfl; rfl; rfl; rfl; rfl)
  generalize ((w.alloc (.cells zRice 24 (0, 0))).alloc (.cells zRice 24 (0, 0))).setRow (w.heap.size + 1) zRice = w1 at *
  generalize w.heap.size + 1 = b8 at *
  clear HXX
  go_wp2
  go_loopw [9, 14] (fun sv iv wr => ∃ (i : Nat) (bo n : Int) (vP vE : Value) (ps es : List Int), i ≤ 5 ∧ iv = .int .i64 i ∧ sv = .int .i64 n ∧ Aside0 (BestSt w w.heap.size b8 bo wr vP vE ps es) ∧ Aside0 (bestL block order l (5 - i) i (bo, ps, es, n) = X)) (fun _ iv _ => 5 - (intOf iv).toNat)
  case atStart => exact ⟨0, 0, -1, .slice none 0 0, .slice none 0 0, [], [], by omega, rfl, rfl, HST, HX⟩
  case round =>
    clear HST HX
    obtain ⟨i, bo, n, vP, vE, ps, es, hi, rfl, rfl, HST, HX⟩ := hrel
    by_cases hlt : i < 5
    · have i1 : (i : Int) < 5 := by omega
      obtain ⟨d, hd⟩ : ∃ d, 5 - i = d + 1 := ⟨5 - i - 1, by omega⟩
      have hd2 : 5 - (i + 1) = d := by omega
      have HD := Aside0.mk hd2
      have HX2 : Aside0 (bestL block order l d (i + 1) (betterF (bo, ps, es, n) (i : Int) (tryF block order l (i : Int))) = X) := ⟨by
        have := HX.out
        rw [hd] at this
        exact this⟩
      have HT := Aside0.mk (HTRY.out i wr HST.out.bel)
      clear HX hd hd2
      generalize tryF block order l (i : Int) = Y at HT HX2
      go_wp2_with fail
      with_reducible refine HT.out.mono ?_
      rintro e w4 hpost
      clear HT
      rcases hpost with ⟨rfl, rfl, hb4⟩ | ⟨sum, ps', es', vP', vE', rfl, rfl, hP', hE', hb4⟩
      · have HST4 := Aside0.mk (HST.out.below (hb4.trans ((below_setRow (below_alloc (Below.refl w4.heap.size w4) (.cells zRice 24 (0, 0))) (Nat.le_refl _) zRice).mono hb4.size)))
        have HN := Aside0.mk (blk_new w4 (.cells zRice 24 (0, 0)))
        clear hb4 HST
        go_wp2_with ((with_reducible refine wpList_store_row ?_ 24 (.tmp 11) (.tmp 23) ?_ (w4.heap.size) (zRice) ?_ ?_ 24 (zRice) (HN.out) (rc_info _ _ _ _) ?_ (rc_one _ _ _ _ _ _ _ _) ?_); rfl; rfl; rfl; rfl; rfl)
        go_roundw
        case rel => exact ⟨i + 1, bo, n, vP, vE, ps, es, by omega, by go_num, rfl, HST4, ⟨by rw [HD.out]; exact HX2.out⟩⟩
        case measure => simp [intOf]; omega
      · obtain ⟨AP, nP, cP, eP⟩ := hP'.shape
        subst eP
        obtain ⟨AE, nE, cE, eE⟩ := hE'.shape
        subst eE
        have hbN : Below w4.heap.size w4 ((w4.alloc (.cells zRice 24 (0, 0))).setRow w4.heap.size #[.int .i64 0, .int .i64 (i : Int), .slice AP nP cP, .slice AE nE cE]) := below_setRow (below_alloc (Below.refl w4.heap.size w4) (.cells zRice 24 (0, 0))) (Nat.le_refl _) _
        have HST4 := Aside0.mk (HST.out.below (hb4.trans (hbN.mono hb4.size)))
        have HP4 := Aside0.mk ((hP'.lower HST.out.bel.size).below hbN)
        have HE4 := Aside0.mk ((hE'.lower HST.out.bel.size).below hbN)
        have HN := Aside0.mk (blk_new w4 (.cells zRice 24 (0, 0)))
        have HN4 := Aside0.mk (setRow_heap _ _ _ #[.int .i64 0, .int .i64 (i : Int), .slice AP nP cP, .slice AE nE cE] _ _ HN.out)
        clear hb4 HST hP' hE' hbN
        go_upto_region 6 with ((with_reducible refine wpList_store_row ?_ 24 (.tmp 11) (.tmp 23) ?_ (w4.heap.size) (#[.int .i64 0, .int .i64 (i : Int), .slice AP nP cP, .slice AE nE cE]) ?_ ?_ 24 (zRice) (HN.out) (rc_info _ _ _ _) ?_ (rc_one _ _ _ _ _ _ _ _) ?_); rfl; rfl; rfl; rfl; rfl)
        generalize (w4.alloc (.cells zRice 24 (0, 0))).setRow w4.heap.size #[.int .i64 0, .int .i64 (i : Int), .slice AP nP cP, .slice AE nE cE] = w5 at *
        generalize w4.heap.size = b11 at *
        clear HN
        by_cases g0 : 0 ≤ sum
        · by_cases g1 : n < 0
          · have HX3 : Aside0 (bestL block order l d (i + 1) ((i : Int), ps', es', sum) = X) := ⟨by have := HX2.out; rwa [better_take (by omega)] at this⟩
            clear HX2
            have HST6 := Aside0.mk (HST4.out.put (o' := (i : Int)) h68 hC8 HP4.out HE4.out)
            have HR8 := Aside0.mk HST4.out.r8
            have c0 := blk_cell HN4.out 0
            have c1 := blk_cell HN4.out 1
            have c2 := blk_cell HN4.out 2
            have c3 := blk_cell HN4.out 3
            go_wp2_with ((with_reducible refine wpList_store_row ?_ 24 (.tmp 8) (.tmp 36) ?_ (b8) (#[.int .i64 0, .int .i64 (i : Int), .slice AP nP cP, .slice AE nE cE]) ?_ ?_ 24 (#[.int .i64 0, .int .i64 bo, vP, vE]) (HR8.out) (rc_info _ _ _ _) ?_ (rc_one _ _ _ _ _ _ _ _) ?_); rfl; rfl; rfl; rfl; rfl)
            clear c0 c1 c2 c3
            go_roundw
            case rel => exact ⟨i + 1, (i : Int), sum, _, _, ps', es', by omega, by go_num, rfl, HST6, ⟨by rw [HD.out]; exact HX3.out⟩⟩
            case measure => simp [intOf]; omega
          · by_cases g2 : sum < n
            · have HX3 : Aside0 (bestL block order l d (i + 1) ((i : Int), ps', es', sum) = X) := ⟨by have := HX2.out; rwa [better_take (by omega)] at this⟩
              clear HX2
              have HST6 := Aside0.mk (HST4.out.put (o' := (i : Int)) h68 hC8 HP4.out HE4.out)
              have HR8 := Aside0.mk HST4.out.r8
              have c0 := blk_cell HN4.out 0
              have c1 := blk_cell HN4.out 1
              have c2 := blk_cell HN4.out 2
              have c3 := blk_cell HN4.out 3
              go_wp2_with ((with_reducible refine wpList_store_row ?_ 24 (.tmp 8) (.tmp 36) ?_ (b8) (#[.int .i64 0, .int .i64 (i : Int), .slice AP nP cP, .slice AE nE cE]) ?_ ?_ 24 (#[.int .i64 0, .int .i64 bo, vP, vE]) (HR8.out) (rc_info _ _ _ _) ?_ (rc_one _ _ _ _ _ _ _ _) ?_); rfl; rfl; rfl; rfl; rfl)
              clear c0 c1 c2 c3
              go_roundw
              case rel => exact ⟨i + 1, (i : Int), sum, _, _, ps', es', by omega, by go_num, rfl, HST6, ⟨by rw [HD.out]; exact HX3.out⟩⟩
              case measure => simp [intOf]; omega
            · have HX3 : Aside0 (bestL block order l d (i + 1) (bo, ps, es, n) = X) := ⟨by have := HX2.out; rwa [better_keep (by omega)] at this⟩
              clear HX2
              go_wp2
              go_roundw
              case rel => exact ⟨i + 1, bo, n, vP, vE, ps, es, by omega, by go_num, rfl, HST4, ⟨by rw [HD.out]; exact HX3.out⟩⟩
              case measure => simp [intOf]; omega
        · have g0' : sum < 0 := by omega
          have HX3 : Aside0 (bestL block order l d (i + 1) (bo, ps, es, n) = X) := ⟨by have := HX2.out; rwa [better_keep (by omega)] at this⟩
          clear HX2
          go_wp2
          go_roundw
          case rel => exact ⟨i + 1, bo, n, vP, vE, ps, es, by omega, by go_num, rfl, HST4, ⟨by rw [HD.out]; exact HX3.out⟩⟩
          case measure => simp [intOf]; omega
    · obtain rfl : i = 5 := by omega
      have HXS : Aside0 (X = (bo, ps, es, n)) := ⟨HX.out.symm⟩
      clear HX
      obtain ⟨AP, nP, cP, eP⟩ := HST.out.P.shape
      subst eP
      obtain ⟨AE, nE, cE, eE⟩ := HST.out.E.shape
      subst eE
      have c0 := blk_cell HST.out.r8 0
      have c1 := blk_cell HST.out.r8 1
      have c2 := blk_cell HST.out.r8 2
      have c3 := blk_cell HST.out.r8 3
      go_wp2_with ((with_reducible refine wpList_store_row ?_ 24 (.tmp 6) (.tmp 39) ?_ (w.heap.size) (#[.int .i64 0, .int .i64 bo, .slice AP nP cP, .slice AE nE cE]) ?_ ?_ 24 (zRice) (HST.out.z6) (rc_info _ _ _ _) ?_ (rc_one _ _ _ _ _ _ _ _) ?_); rfl; rfl; rfl; rfl; rfl)
      refine bodyPost_ret (results_ct rfl _ _ w.heap.size 24 #[.int .i64 0, .int .i64 bo, .slice AP nP cP, .slice AE nE cE] (0, 0) _ rfl (setRow_heap _ _ _ _ _ _ HST.out.z6) Try.underlying24 rfl (rc_info _ _ _ _)) rfl ?_
      rw [HXS.out]
      exact ⟨_, _, rfl, HST.out.P.setRow HST.out.z6 (by decide), HST.out.E.setRow HST.out.z6 (by decide), below_setRow HST.out.bel (Nat.le_refl _) _⟩
end Go.Proofs.Ytfhekkoibmlmpaa.Hand

/- Contracts of layer 8, proved by hand: what is the same is the same; short lists. -/
namespace Go.Proofs.Ytfhekkoibmlmpaa.Hand
open Go.RowKit Go.Proofs.Ytfhekkoibmlmpaa.Q Go.Proofs.YtfhekkoibmlmpaaW.PrintWords Go.Proofs.YtfhekkoibmlmpaaW.PrintLast Go.Proofs.YtfhekkoibmlmpaaW.PrintMore
set_option linter.unusedVariables false
set_option linter.unusedSimpArgs false

theorem ints_loop (a : List Int) (h : a.length ≤ 9223372036854775807) : ∀ d i : Nat, i + d = a.length → lacquerref05_Ints.l0 (d + 1) a a (i : Int) = some true
  | 0, i, hi => by
    simp only [lacquerref05_Ints.l0]
    rw [if_neg (by omega)]
  | d + 1, i, hi => by
    have ih := ints_loop a h d (i + 1) (by omega)
    rw [lacquerref05_Ints.l0]
    rw [if_pos (by omega), if_pos (by omega), if_pos (by omega), if_pos rfl, w64h _ (by omega) (by omega)]
    exact ih
theorem Ints_same (l : List Int) (hl : l.length ≤ 9223372036854775807) (A : Option Addr) (c : Nat) (B : Option Addr) (d : Nat) (w : World) (hA : Kd.C (Kd.int .i64) w A l.length l) (hc : l.length ≤ c) (hB : Kd.C (Kd.int .i64) w B l.length l) (hd : l.length ≤ d) :
    Calls Try.prog 23 #[.slice A l.length c, .slice B l.length d] w fun e w' => e = .returned (.bool true) ∧ Drawn0 w w' := by
  refine lacquerref05_Ints.calls (l.length + 1) A c l B d l true w hA hc hB hd ?_
  unfold lacquerref05_Ints.f
  rw [if_pos rfl]
  exact ints_loop l hl l.length 0 (by omega)
theorem same_l1 (m o : Int) (ps es : List Int) (h : es.length ≤ 9223372036854775807) : ∀ d i : Nat, i + d = es.length → lacquerref08_Same.l1 (d + 1) (i : Int) m o ps es m o ps es = some true
  | 0, i, hi => by
    simp only [lacquerref08_Same.l1]
    rw [if_neg (by omega)]
  | d + 1, i, hi => by
    have ih := same_l1 m o ps es h d (i + 1) (by omega)
    rw [lacquerref08_Same.l1]
    rw [if_pos (by omega), if_pos (by omega), if_pos (by omega), if_pos rfl, w64h _ (by omega) (by omega)]
    exact ih
theorem same_l0 (m o : Int) (ps es : List Int) (h : es.length ≤ 9223372036854775807) (hp : ps.length ≤ 9223372036854775807) : ∀ d i : Nat, i + d = ps.length → lacquerref08_Same.l0 (d + 1 + (es.length + 1)) (i : Int) m o ps es m o ps es = some true
  | 0, i, hi => by
    rw [show 0 + 1 + (es.length + 1) = (es.length + 1) + 1 by omega, lacquerref08_Same.l0]
    rw [if_neg (by omega)]
    exact same_l1 m o ps es h es.length 0 (by omega)
  | d + 1, i, hi => by
    have ih := same_l0 m o ps es h hp d (i + 1) (by omega)
    rw [show d + 1 + 1 + (es.length + 1) = (d + 1 + (es.length + 1)) + 1 by omega, lacquerref08_Same.l0]
    rw [if_pos (by omega), if_pos (by omega), if_pos (by omega), if_pos rfl, w64h _ (by omega) (by omega)]
    exact ih
theorem Same_same (m o : Int) (ps es : List Int) (h : es.length ≤ 9223372036854775807) (hp : ps.length ≤ 9223372036854775807) (AP AE BP BE : Option Addr) (cP cE dP dE : Nat) (w : World) (hAP : Kd.C (Kd.int .i64) w AP ps.length ps) (hcP : ps.length ≤ cP)
    (hAE : Kd.C (Kd.int .i64) w AE es.length es) (hcE : es.length ≤ cE) (hBP : Kd.C (Kd.int .i64) w BP ps.length ps) (hdP : ps.length ≤ dP) (hBE : Kd.C (Kd.int .i64) w BE es.length es) (hdE : es.length ≤ dE) :
    Calls Try.prog 24 #[.agg #[.int .i64 m, .int .i64 o, .slice AP ps.length cP, .slice AE es.length cE], .agg #[.int .i64 m, .int .i64 o, .slice BP ps.length dP, .slice BE es.length dE]] w fun e w' => e = .returned (.bool true) ∧ Below w.heap.size w w' := by
  refine lacquerref08_Same.calls (ps.length + 1 + (es.length + 1) + 1) m o AP cP ps AE cE es m o BP dP ps BE dE es true w hAP hcP hAE hcE hBP hdP hBE hdE ?_
  unfold lacquerref08_Same.f
  rw [if_pos rfl, if_pos rfl, if_pos rfl, lacquerref08_Same.j0]
  rw [if_neg (by simp)]
  exact same_l0 m o ps es h hp ps.length 0 (by omega)
/-- Short lists. -/
def shortP (l : List Int) : Prop := (∀ x ∈ l, -4000 ≤ x ∧ x ≤ 4000) ∧ l.length ≤ 5000
instance (l : List Int) : Decidable (shortP l) := by unfold shortP; infer_instance
theorem short_l0 (l : List Int) (h : l.length ≤ 9223372036854775807) : ∀ d i : Nat, i + d = l.length → lacquerlaw08_short.l0 (d + 1) l (i : Int) = some (decide ((∀ x ∈ l.drop i, -4000 ≤ x ∧ x ≤ 4000) ∧ l.length ≤ 5000))
  | 0, i, hi => by
    simp only [lacquerlaw08_short.l0]
    rw [if_neg (by omega), List.drop_eq_nil_of_le (by omega)]
    congr 1
    simp
    omega
  | d + 1, i, hi => by
    have ih := short_l0 l h d (i + 1) (by omega)
    have hlt : i < l.length := by omega
    have hrd : rd l (i : Nat) = l[i] := by simp [rd, hlt]
    rw [lacquerlaw08_short.l0]
    rw [if_pos (by omega), if_pos (by omega), w64h _ (by omega) (by omega), List.drop_eq_getElem_cons hlt, ← hrd]
    generalize rd l (i : Nat) = x
    by_cases h1 : x > 4000
    · rw [if_pos h1, decide_eq_false]
      intro hh
      have := hh.1 x List.mem_cons_self
      omega
    · rw [if_neg h1]
      by_cases h2 : x < -4000
      · rw [if_pos h2, decide_eq_false]
        intro hh
        have := hh.1 x List.mem_cons_self
        omega
      · rw [if_neg h2]
        refine ih.trans ?_
        congr 1
        rw [decide_eq_decide]
        simp only [List.forall_mem_cons]
        constructor
        · exact fun hh => ⟨⟨⟨by omega, by omega⟩, hh.1⟩, hh.2⟩
        · exact fun hh => ⟨hh.1.2, hh.2⟩
theorem short_any (l : List Int) (h : l.length ≤ 9223372036854775807) (A : Option Addr) (c : Nat) (w : World) (hA : Kd.C (Kd.int .i64) w A l.length l) (hc : l.length ≤ c) :
    Calls Try.prog 8 #[.slice A l.length c] w fun e w' => e = .returned (.bool (decide (shortP l))) ∧ Drawn0 w w' := by
  refine lacquerlaw08_short.calls (l.length + 1) A c l _ w hA hc ?_
  unfold lacquerlaw08_short.f
  have := short_l0 l h l.length 0 (by omega)
  rw [List.drop_zero] at this
  exact this
end Go.Proofs.Ytfhekkoibmlmpaa.Hand

/- Contracts of layer 1, proved by hand: the reference's writer. -/
namespace Go.Proofs.Ytfhekkoibmlmpaa.Hand
open Go.RowKit
set_option linter.unusedVariables false
set_option linter.unusedSimpArgs false

end Go.Proofs.Ytfhekkoibmlmpaa.Hand
namespace Go.Proofs.Ytfhekkoibmlmpaa.Hand
open Go.RowKit Go.Proofs.Ytfhekkoibmlmpaa.Q Go.Proofs.YtfhekkoibmlmpaaW.PrintWords Go.Proofs.YtfhekkoibmlmpaaW.PrintLast Go.Proofs.YtfhekkoibmlmpaaW.PrintMore
set_option linter.unusedVariables false
set_option linter.unusedSimpArgs false

def b01 (b : Bool) : Int := if b then 1 else 0
def ones (bs : List Bool) : List Int := bs.map b01
theorem ones_snoc (bs : List Bool) (b : Bool) : ones (bs ++ [b]) = ones bs ++ [b01 b] := by simp [ones]
/-- The reference's writer of these bits: a byte each. -/
def XW (w : World) (B g : Nat) (v : Value) (bs : List Bool) : Prop := w.heap[g]? = some (.cells #[v] 33 (0, 0)) ∧ BytesAt w B v (ones bs) ∧ B ≤ g
theorem XW.below {w w' : World} {B g : Nat} {v : Value} {bs : List Bool} (h : XW w B g v bs) (hb : Below w.heap.size w w') : XW w' B g v bs := ⟨blk_below h.1 hb, h.2.1.below hb, h.2.2⟩
theorem XW.lt {w : World} {B g : Nat} {v : Value} {bs : List Bool} (h : XW w B g v bs) : g < w.heap.size := blk_lt h.1
theorem XW.grown {W w1 : World} {B g : Nat} {v : Value} {bs : List Bool} (h : XW W B g v bs) (hg : W.grownBy w1 v.ownBlock) : w1.heap[g]? = some (.cells #[v] 33 (0, 0)) := by
  rw [hg.block g h.lt (fun e => ?_)]
  · exact h.1
  · exact Kd.R_ne h.2.1.all h.1 (by decide) e
theorem XW.put {w1 : World} {B g : Nat} {v v1 : Value} {bs : List Bool} {one : Bool} (hb : w1.heap[g]? = some (.cells #[v] 33 (0, 0))) (hr : BytesAt w1 B v1 (ones bs ++ [b01 one])) (hB : B ≤ g) : XW (w1.setCell ⟨g, 0, none⟩ v1) B g v1 (bs ++ [one]) := by
  rw [← ones_snoc] at hr
  exact ⟨blk_put hb 0 v1 rfl, hr.set hb (by decide) 0 v1, hB⟩
end Go.Proofs.Ytfhekkoibmlmpaa.Hand
namespace Go.Proofs.Ytfhekkoibmlmpaa.Hand
open Go.RowKit Go.Proofs.Ytfhekkoibmlmpaa.Q Go.Proofs.YtfhekkoibmlmpaaW.PrintWords Go.Proofs.YtfhekkoibmlmpaaW.PrintLast Go.Proofs.YtfhekkoibmlmpaaW.PrintMore
set_option linter.unusedVariables false
set_option linter.unusedSimpArgs false

end Go.Proofs.Ytfhekkoibmlmpaa.Hand
namespace Go.Proofs.Ytfhekkoibmlmpaa.Hand
open Go.RowKit Go.Proofs.Ytfhekkoibmlmpaa.Q Go.Proofs.YtfhekkoibmlmpaaW.PrintWords Go.Proofs.YtfhekkoibmlmpaaW.PrintLast Go.Proofs.YtfhekkoibmlmpaaW.PrintMore
set_option linter.unusedVariables false
set_option linter.unusedSimpArgs false

end Go.Proofs.Ytfhekkoibmlmpaa.Hand

/- Contracts of layer 8, proved by hand: the reference's Encode; where it is refused ahead; its words. -/
namespace Go.Proofs.Ytfhekkoibmlmpaa.Hand
open Go.RowKit Go.Proofs.Ytfhekkoibmlmpaa.Q Go.Proofs.YtfhekkoibmlmpaaW.PrintWords Go.Proofs.YtfhekkoibmlmpaaW.PrintLast Go.Proofs.YtfhekkoibmlmpaaW.PrintMore
set_option linter.unusedVariables false
set_option linter.unusedSimpArgs false

section
variable {ops : Array Oper} {o : Oper} {a : Act} {Q : Exit → Act → World → Prop} {Kc : Act → World → Prop} {rest : List Oper}
end
theorem C_cell {w : World} {A : Option Addr} {xs : List Int} (h : Kd.C (Kd.int .i64) w A xs.length xs) (i : Nat) (hi : i < xs.length) : ∃ ad, A = some ad ∧ w.cell? (ad.add i) = some (.int .i64 (rd xs (i : Int))) := by
  have hr : ReadsInt w .i64 A xs.length xs := Kd.reads_of_C (d := (0 : Int)) (enc := Value.int .i64) h
  obtain ⟨ad, e, hx⟩ := hr.at_ (i : Int) (by omega) (by omega)
  rw [Int.toNat_natCast] at hx
  exact ⟨ad, e, hx⟩
end Go.Proofs.Ytfhekkoibmlmpaa.Hand

/- Contracts of layer 8, proved by hand: awake. -/
namespace Go.Proofs.Ytfhekkoibmlmpaa.Hand
open Go.RowKit Go.Proofs.Ytfhekkoibmlmpaa.Q Go.Proofs.YtfhekkoibmlmpaaW.PrintWords Go.Proofs.YtfhekkoibmlmpaaW.PrintLast Go.Proofs.YtfhekkoibmlmpaaW.PrintMore
set_option linter.unusedVariables false
set_option linter.unusedSimpArgs false

/-- A literal list. -/
theorem lit4 {w : World} {g : Nat} (h : w.heap[g]? = some (.cells #[.int .i64 0, .int .i64 (-1), .int .i64 1, .int .i64 2] 3 (0, 0))) : Kd.C (Kd.int .i64) w (some ⟨g, 0, none⟩) ([0, -1, 1, 2] : List Int).length [0, -1, 1, 2] := by
  refine Kd.C_of_reads (d := (0 : Int)) (enc := Value.int .i64) ⟨rfl, by simp, fun _ => ⟨_, rfl, fun j hj => ?_⟩⟩
  rw [add_plain]
  have hc := blk_cell h j
  rw [hc]
  match j, hj with
  | 0, _ => rfl
  | 1, _ => rfl
  | 2, _ => rfl
  | 3, _ => rfl
theorem best4 : bestF 4 0 [0, -1, 1, 2] = (0, [0], [-1], 21) := by decide +kernel
theorem can4 : canE 0 0 [0] [-1] 4 0 [0, -1, 1, 2] := by decide +kernel
theorem len4 : (bitsE 0 0 [0] [-1] 4 0 [0, -1, 1, 2]).length = 21 := by decide +kernel
theorem dec4 : decF (strOfNums (pack (bitsE 0 0 [0] [-1] 4 0 [0, -1, 1, 2]))) 0 4 0 = (0, 0, [0, -1, 1, 2], [0], [-1], 0, 21) := by
  have h := dec_back (A := []) (R := []) 0 0 4 0 [0] [-1] [0, -1, 1, 2] (text_holds (bitsE 0 0 [0] [-1] 4 0 [0, -1, 1, 2])) (by simp) can4
  rw [len4] at h
  exact h
theorem cost41 : costF [0, -1, 1, 2] 1 = 11 := by decide +kernel
theorem cost4n : costF [0, -1, 1, 2] 31 = -1 := by decide +kernel
theorem span4 : ∀ x ∈ ([0, -1, 1, 2] : List Int), -9223372036854775808 ≤ x ∧ x ≤ 9223372036854775807 := by decide
theorem Cost_any (l : List Int) (k : Int) (A : Option Addr) (c : Nat) (w : World) (hl : l.length ≤ 65535) (hin : ∀ x ∈ l, -9223372036854775808 ≤ x ∧ x ≤ 9223372036854775807) (hA : Kd.C (Kd.int .i64) w A l.length l) (hc : l.length ≤ c) :
    Calls Try.prog 28 #[.slice A l.length c, .int .i64 k] w fun e w' => e = .returned (.int .i64 (costF l k)) ∧ Drawn0 w w' := by
  obtain ⟨n, h⟩ := (cost_ev l k hl hin).rounds
  exact rice_Cost.calls n A c l k _ w hA hc h
theorem pack_size (bs : List Bool) : (strOfNums (pack bs)).size = (bs.length + 7) / 8 := by rw [size_nums, pack_length]
set_option maxHeartbeats 16000000 in
set_option maxRecDepth 100000 in
theorem awake_any (w : World) : Calls Try.prog 9 #[] w fun e w' => e = .returned (.bool true) ∧ Below w.heap.size w w' := by
  have hup := Try.underlying28
  have hup2 := Try.underlying45
  have hblk := blk_new w (.cells #[.int .i64 0, .int .i64 (-1), .int .i64 1, .int .i64 2] 3 (0, 0))
  have hbel := below_alloc (Below.refl w.heap.size w) (.cells #[.int .i64 0, .int .i64 (-1), .int .i64 1, .int .i64 2] 3 (0, 0))
  have hbe := Best_any 4 0 [0, -1, 1, 2] (some ⟨w.heap.size, 0, none⟩) 4 _ (by simp) (lit4 hblk) span4
  rw [best4] at hbe
  have HBE : Aside0 (Calls Try.prog 26 #[.int .i64 4, .int .i64 0, .slice (some ⟨w.heap.size, 0, none⟩) 4 4] (w.alloc (.cells #[.int .i64 0, .int .i64 (-1), .int .i64 1, .int .i64 2] 3 (0, 0))) fun e w' => ∃ vP vE, e = .returned (.tuple #[.agg #[.int .i64 0, .int .i64 0, vP, vE], .int .i64 21]) ∧
      IntsAt w' (w.alloc (.cells #[.int .i64 0, .int .i64 (-1), .int .i64 1, .int .i64 2] 3 (0, 0))).heap.size vP [0] ∧ IntsAt w' (w.alloc (.cells #[.int .i64 0, .int .i64 (-1), .int .i64 1, .int .i64 2] 3 (0, 0))).heap.size vE [-1] ∧ Below (w.alloc (.cells #[.int .i64 0, .int .i64 (-1), .int .i64 1, .int .i64 2] 3 (0, 0))).heap.size (w.alloc (.cells #[.int .i64 0, .int .i64 (-1), .int .i64 1, .int .i64 2] 3 (0, 0))) w') := ⟨hbe⟩
  have HC0 : Aside0 (Kd.C (Kd.int .i64) (w.alloc (.cells #[.int .i64 0, .int .i64 (-1), .int .i64 1, .int .i64 2] 3 (0, 0))) (some ⟨w.heap.size, 0, none⟩) 4 [0, -1, 1, 2]) := ⟨lit4 hblk⟩
  have HB0 := Aside0.mk hbel
  clear hblk hbel hbe
  go_enter Try.func9, Try.ntmps9
  go_wp2_with fail
  with_reducible refine HBE.out.mono ?_
  generalize w.alloc (.cells #[.int .i64 0, .int .i64 (-1), .int .i64 1, .int .i64 2] 3) = w0 at *
  rintro e w1 ⟨vP, vE, rfl, hP, hE, hb⟩
  obtain ⟨AP, cP, rfl, hcP, hCP⟩ := hP.C
  obtain ⟨AE, cE, rfl, hcE, hCE⟩ := hE.C
  have HB1 := Aside0.mk (HB0.out.trans (hb.mono HB0.out.size))
  have HC1 := Aside0.mk (Kd.C_below HC0.out hb)
  have HP1 : Aside0 (Kd.C (Kd.int .i64) w1 AP 1 [0]) := ⟨hCP⟩
  have HE1 : Aside0 (Kd.C (Kd.int .i64) w1 AE 1 [-1]) := ⟨hCE⟩
  have hcP1 : 1 ≤ cP := hcP
  have hcE1 : 1 ≤ cE := hcE
  clear hb hP hE hcP hcE hCP hCE HB0 HC0 HBE
  have HN := Aside0.mk (blk_new w1 (.cells zRice 24 (0, 0)))
  have hbN := below_setRow (below_alloc (Below.refl w1.heap.size w1) (.cells zRice 24 (0, 0))) (Nat.le_refl _) #[.int .i64 0, .int .i64 0, .slice AP 1 cP, .slice AE 1 cE]
  have HX2 := Aside0.mk (setRow_heap _ _ _ #[.int .i64 0, .int .i64 0, .slice AP 1 cP, .slice AE 1 cE] _ _ HN.out)
  have HB2 := Aside0.mk (HB1.out.trans (hbN.mono HB1.out.size))
  have HC2 := Aside0.mk (Kd.C_below HC1.out hbN)
  have HP2 := Aside0.mk (Kd.C_below HP1.out hbN)
  have HE2 := Aside0.mk (Kd.C_below HE1.out hbN)
  clear hbN HC1 HP1 HE1
  go_upto_region 3 with ((with_reducible refine wpList_store_row ?_ 24 (.tmp 2) (.tmp 14) ?_ (w1.heap.size) (#[.int .i64 0, .int .i64 0, .slice AP 1 cP, .slice AE 1 cE]) ?_ ?_ 24 (zRice) (HN.out) (rc_info _ _ _ _) ?_ (rc_one _ _ _ _ _ _ _ _) ?_); rfl; rfl; rfl; rfl; rfl)
  generalize (w1.alloc (.cells zRice 24 (0, 0))).setRow w1.heap.size #[.int .i64 0, .int .i64 0, .slice AP 1 cP, .slice AE 1 cE] = w2 at *
  generalize w1.heap.size = g2 at *
  clear HN
  have HW3 := Aside0.mk (new_at w2 w2.heap.size (Nat.le_refl _))
  have hb3 := below_alloc (Below.refl w2.heap.size w2) (.cells #[.int .i64 0, .slice none 0 0] 64)
  go_wp2_with fail
  refine (New_any _).mono ?_
  rintro e w3 ⟨rfl, rfl⟩
  generalize w2.alloc (.cells #[.int .i64 0, .slice none 0 0] 64) = w3 at HW3 hb3 ⊢
  have hsz : w.heap.size ≤ w2.heap.size := HB2.out.size
  have hg2 : g2 < w2.heap.size := blk_lt HX2.out
  have hLP : ListAt w3 w2.heap.size (.slice none 0 0) AP [0] := ListAt.elder HP2.out hb3 (Nat.le_refl _) (fun k hk => by simp [Value.ownBlock] at hk)
  have hLE : ListAt w3 w2.heap.size (.slice none 0 0) AE [-1] := ListAt.elder HE2.out hb3 (Nat.le_refl _) (fun k hk => by simp [Value.ownBlock] at hk)
  have hLL : ListAt w3 w2.heap.size (.slice none 0 0) (some ⟨w.heap.size, 0, none⟩) [0, -1, 1, 2] := ListAt.elder HC2.out hb3 (Nat.le_refl _) (fun k hk => by simp [Value.ownBlock] at hk)
  have hen := Encode_any 0 0 4 0 AP AE (some ⟨w.heap.size, 0, none⟩) cP cE 4 [0] [-1] [0, -1, 1, 2] [] w2.heap.size w2.heap.size (.slice none 0 0) w3 (by decide) (by decide) span4 hcP1 hcE1 (by simp) HW3.out hLP hLE hLL (by simp)
  rw [if_pos can4, if_pos can4, List.nil_append] at hen
  have HEN : Aside0 (Calls Try.prog 13 #[.pointer (some ⟨w2.heap.size, 0, none⟩), .agg #[.int .i64 0, .int .i64 0, .slice AP 1 cP, .slice AE 1 cE], .int .i64 4, .int .i64 0, .slice (some ⟨w.heap.size, 0, none⟩) 4 4] w3 fun e w' => e = .returned (.int .i64 0) ∧ ∃ v', WAt w' w2.heap.size w2.heap.size v' (bitsE 0 0 [0] [-1] 4 0 [0, -1, 1, 2]) ∧ Moved w2.heap.size w2.heap.size w3 (.slice none 0 0) w' v') := ⟨hen⟩
  have hb3' : Below w2.heap.size w2 w3 := hb3
  have HX3 := Aside0.mk (blk_below HX2.out hb3)
  have HBB3 := Aside0.mk hb3'
  have c0 := blk_cell HX3.out 0
  have c1 := blk_cell HX3.out 1
  have c2 := blk_cell HX3.out 2
  have c3 := blk_cell HX3.out 3
  clear hen hb3 hb3' hLP hLE hLL HW3
  go_wp2_with fail
  with_reducible refine HEN.out.mono ?_
  rintro e w4 ⟨rfl, v4, hw4, hm4⟩
  have HB4 := Aside0.mk (HBB3.out.trans hm4.below)
  have HW4 := Aside0.mk hw4
  have HLEN := Aside0.mk len4
  have HDEC := Aside0.mk dec4
  clear hw4 hm4 HBB3 HX3 c0 c1 c2 c3 HEN
  generalize bitsE 0 0 [0] [-1] 4 0 [0, -1, 1, 2] = bx at HW4 HLEN HDEC
  have HBY := Aside0.mk (Bytes_any bx _ _ v4 w4 HW4.out)
  have HSS : Aside0 ((strOfNums (pack bx)).size = 3) := ⟨by rw [pack_size, HLEN.out]⟩
  generalize strOfNums (pack bx) = s at HBY HDEC HSS
  go_wp2_with fail
  with_reducible refine HBY.out.mono ?_
  rintro e w4' ⟨rfl, rfl⟩
  clear HBY
  go_wp2_with fail
  with_reducible refine (Of_any s w4).mono ?_
  rintro e w5 ⟨rfl, rfl⟩
  have hR5 : RAt (w4.alloc (.cells #[.int .i64 0, .string s] 75)) w4.heap.size s 0 := blk_new w4 _
  have hb5 := below_alloc (Below.refl w4.heap.size w4) (.cells #[.int .i64 0, .string s] 75)
  generalize w4.alloc (.cells #[.int .i64 0, .string s] 75) = w5 at hR5 hb5 ⊢
  have hde := Decode_any s (by rw [HSS.out]; decide) 0 (Nat.zero_le _) 4 0 w4.heap.size w4.heap.size (Nat.le_refl _) w5 hb5.size hR5
  rw [HDEC.out] at hde
  have HDE := Aside0.mk hde
  have HB5 := Aside0.mk hb5
  clear hR5 hb5 hde
  go_wp2_with fail
  with_reducible refine HDE.out.mono ?_
  rintro e w6 ⟨vl, vP', vE', rfl, hl6, hp6, he6, ⟨q, hr6, hq6, hq0⟩, ht6⟩
  have hq21 : q = 21 := hq0 (by first | rfl | trivial)
  subst hq21
  have HB6 := Aside0.mk (HB5.out.trans ht6.below)
  obtain ⟨AL, cL, rfl, hcL, hCL⟩ := hl6.C
  obtain ⟨AP', cP', rfl, hcP', hCP'⟩ := hp6.C
  obtain ⟨AE', cE', rfl, hcE', hCE'⟩ := he6.C
  have HL6 : Aside0 (Kd.C (Kd.int .i64) w6 AL 4 [0, -1, 1, 2]) := ⟨hCL⟩
  have HP6 : Aside0 (Kd.C (Kd.int .i64) w6 AP' 1 [0]) := ⟨hCP'⟩
  have HE6 : Aside0 (Kd.C (Kd.int .i64) w6 AE' 1 [-1]) := ⟨hCE'⟩
  have HR6 := Aside0.mk hr6
  have hcL4 : 4 ≤ cL := hcL
  have hcP4 : 1 ≤ cP' := hcP'
  have hcE4 : 1 ≤ cE' := hcE'
  clear hl6 hp6 he6 hr6 hq6 hq0 ht6 hCL hCP' hCE' hcL hcP' hcE' HDE HB5
  have HN := Aside0.mk (blk_new w6 (.cells zRice 24 (0, 0)))
  have hbN := below_setRow (below_alloc (Below.refl w6.heap.size w6) (.cells zRice 24 (0, 0))) (Nat.le_refl _) #[.int .i64 0, .int .i64 0, .slice AP' 1 cP', .slice AE' 1 cE']
  have HX7 := Aside0.mk (setRow_heap _ _ _ #[.int .i64 0, .int .i64 0, .slice AP' 1 cP', .slice AE' 1 cE'] _ _ HN.out)
  have HB7 := Aside0.mk hbN
  clear hbN
  go_upto_region 11 with ((with_reducible refine wpList_store_row ?_ 24 (.tmp 8) (.tmp 32) ?_ (w6.heap.size) (#[.int .i64 0, .int .i64 0, .slice AP' 1 cP', .slice AE' 1 cE']) ?_ ?_ 24 (zRice) (HN.out) (rc_info _ _ _ _) ?_ (rc_one _ _ _ _ _ _ _ _) ?_); rfl; rfl; rfl; rfl; rfl)
  generalize (w6.alloc (.cells zRice 24 (0, 0))).setRow w6.heap.size #[.int .i64 0, .int .i64 0, .slice AP' 1 cP', .slice AE' 1 cE'] = w7 at *
  clear HN
  have HF : Aside0 (∀ W, Below w7.heap.size w7 W → WAt W w2.heap.size w2.heap.size v4 bx ∧ RAt W w4.heap.size s 21 ∧ W.heap[g2]? = some (.cells #[.int .i64 0, .int .i64 0, .slice AP 1 cP, .slice AE 1 cE] 24 (0, 0)) ∧ W.heap[w6.heap.size]? = some (.cells #[.int .i64 0, .int .i64 0, .slice AP' 1 cP', .slice AE' 1 cE'] 24 (0, 0)) ∧
      Kd.C (Kd.int .i64) W (some ⟨w.heap.size, 0, none⟩) 4 [0, -1, 1, 2] ∧ Kd.C (Kd.int .i64) W AP 1 [0] ∧ Kd.C (Kd.int .i64) W AE 1 [-1] ∧ Kd.C (Kd.int .i64) W AL 4 [0, -1, 1, 2] ∧ Kd.C (Kd.int .i64) W AP' 1 [0] ∧ Kd.C (Kd.int .i64) W AE' 1 [-1] ∧ Below w.heap.size w W) := ⟨fun W hW => by
    have h67 : Below w6.heap.size w6 W := HB7.out.trans (hW.mono HB7.out.size)
    have h47 : Below w4.heap.size w4 W := HB6.out.trans (h67.mono HB6.out.size)
    have h27 : Below w2.heap.size w2 W := HB4.out.trans (h47.mono HB4.out.size)
    exact ⟨HW4.out.below h47, HR6.out.below h67, blk_below HX2.out h27, blk_below HX7.out hW, Kd.C_below HC2.out h27, Kd.C_below HP2.out h27, Kd.C_below HE2.out h27, Kd.C_below HL6.out h67, Kd.C_below HP6.out h67, Kd.C_below HE6.out h67, HB2.out.trans (h27.mono hsz)⟩⟩
  clear HB2 HX2 HC2 HP2 HE2 HB4 HW4 HB6 HL6 HP6 HE6 HR6 HX7 HB7 HSS HDEC
  generalize w2.heap.size = gw at *
  generalize w4.heap.size = gr at *
  generalize w6.heap.size = g7 at *
  obtain ⟨f1, f2, f3, f4, f5, f6, f7, f8, f9, f10, f11⟩ := HF.out w7 (Below.refl _ _)
  have c2 := blk_cell f3 2
  obtain ⟨adP, rfl, hxP⟩ := C_cell f6 0 (by decide)
  rw [Addr.add_zero'] at hxP
  have HLE := fun W hW => Len_any bx gw gw v4 W (HF.out W hW).1
  rw [HLEN.out] at HLE
  have HLE := Aside0.mk HLE
  have HIN : Aside0 (∀ W, Below w7.heap.size w7 W → Calls Try.prog 23 #[.slice AL 4 cL, .slice (some ⟨w.heap.size, 0, none⟩) 4 4] W fun e w' => e = .returned (.bool true) ∧ Drawn0 W w') := ⟨fun W hW => Ints_same [0, -1, 1, 2] (by decide) AL cL (some ⟨w.heap.size, 0, none⟩) 4 W (HF.out W hW).2.2.2.2.2.2.2.1 hcL4 (HF.out W hW).2.2.2.2.1 (by decide)⟩
  have HSA : Aside0 (∀ W, Below w7.heap.size w7 W → Calls Try.prog 24 #[.agg #[.int .i64 0, .int .i64 0, .slice (some adP) 1 cP, .slice AE 1 cE], .agg #[.int .i64 0, .int .i64 0, .slice AP' 1 cP', .slice AE' 1 cE']] W fun e w' => e = .returned (.bool true) ∧ Below W.heap.size W w') := ⟨fun W hW =>
    Same_same 0 0 [0] [-1] (by decide) (by decide) (some adP) AE AP' AE' cP cE cP' cE' W (HF.out W hW).2.2.2.2.2.1 hcP1 (HF.out W hW).2.2.2.2.2.2.1 hcE1 (HF.out W hW).2.2.2.2.2.2.2.2.1 hcP4 (HF.out W hW).2.2.2.2.2.2.2.2.2.1 hcE4⟩
  have HAT := Aside0.mk (fun W hW => At_any s 21 gr W (HF.out W hW).2.1)
  have HCO : Aside0 (∀ W (k : Int), Below w7.heap.size w7 W → Calls Try.prog 28 #[.slice (some ⟨w.heap.size, 0, none⟩) 4 4, .int .i64 k] W fun e w' => e = .returned (.int .i64 (costF [0, -1, 1, 2] k)) ∧ Drawn0 W w') := ⟨fun W k hW => Cost_any [0, -1, 1, 2] k (some ⟨w.heap.size, 0, none⟩) 4 W (by decide) span4 (HF.out W hW).2.2.2.2.1 (by decide)⟩
  clear f1 f2 f3 f4 f5 f6 f7 f8 f9 f10 f11
  go_wp2_with fail
  with_reducible refine (HLE.out _ (Below.refl _ _)).mono ?_
  rintro e w8 ⟨rfl, rfl⟩
  clear c2 hxP
  go_wp2_with fail
  with_reducible refine (HIN.out _ (Below.refl _ _)).mono ?_
  rintro e w8 ⟨rfl, hd8⟩
  have HB8 : Aside0 (Below w7.heap.size w7 w8) := ⟨hd8.below⟩
  clear hd8
  obtain ⟨f1, f2, f3, f4, f5, f6, f7, f8, f9, f10, f11⟩ := HF.out w8 HB8.out
  have c0 := blk_cell f3 0
  have c1 := blk_cell f3 1
  have c2 := blk_cell f3 2
  have c3 := blk_cell f3 3
  have d0 := blk_cell f4 0
  have d1 := blk_cell f4 1
  have d2 := blk_cell f4 2
  have d3 := blk_cell f4 3
  clear f1 f2 f3 f4 f5 f6 f7 f8 f9 f10 f11
  go_wp2_with fail
  with_reducible refine (HSA.out _ HB8.out).mono ?_
  rintro e w9 ⟨rfl, hb9⟩
  have HB9 : Aside0 (Below w7.heap.size w7 w9) := ⟨HB8.out.trans (hb9.mono HB8.out.size)⟩
  clear hb9 c0 c1 c2 c3 d0 d1 d2 d3
  go_wp2_with fail
  with_reducible refine (HAT.out _ HB9.out).mono ?_
  rintro e w10 ⟨rfl, hd10⟩
  have HB10 : Aside0 (Below w7.heap.size w7 w10) := ⟨HB9.out.trans (hd10.below.mono HB9.out.size)⟩
  clear hd10
  go_wp2_with fail
  with_reducible refine (HCO.out _ _ HB10.out).mono ?_
  rw [cost41]
  rintro e w11 ⟨rfl, hd11⟩
  have HB11 : Aside0 (Below w7.heap.size w7 w11) := ⟨HB10.out.trans (hd11.below.mono HB10.out.size)⟩
  clear hd11
  go_wp2_with fail
  with_reducible refine (HCO.out _ _ HB11.out).mono ?_
  rw [cost4n]
  rintro e w12 ⟨rfl, hd12⟩
  have HB12 : Aside0 (Below w7.heap.size w7 w12) := ⟨HB11.out.trans (hd12.below.mono HB11.out.size)⟩
  clear hd12
  go_wp2
  go_ret
  exact ⟨rfl, (HF.out _ HB12.out).2.2.2.2.2.2.2.2.2.2⟩
end Go.Proofs.Ytfhekkoibmlmpaa.Hand

/- Contracts of layer 8, proved by hand: the reference's Best, its words. -/
namespace Go.Proofs.Ytfhekkoibmlmpaa.Hand
open Go.RowKit Go.Proofs.Ytfhekkoibmlmpaa.Q Go.Proofs.YtfhekkoibmlmpaaW.PrintWords Go.Proofs.YtfhekkoibmlmpaaW.PrintLast Go.Proofs.YtfhekkoibmlmpaaW.PrintMore
set_option linter.unusedVariables false
set_option linter.unusedSimpArgs false

/-- A recipe that grows, in a block of its own. -/
structure RTry (w0 : World) (b11 : Nat) (o : Int) (wr : World) (vP vE : Value) (ps es : List Int) : Prop where
  bel : Below w0.heap.size w0 wr
  r11 : wr.heap[b11]? = some (.cells #[.int .i64 0, .int .i64 o, vP, vE] 24 (0, 0))
  P : IntsAt wr w0.heap.size vP ps
  E : IntsAt wr w0.heap.size vE es
  d3 : Dis vP vE
theorem RTry.below {w0 : World} {b11 : Nat} {o : Int} {wr w' : World} {vP vE : Value} {ps es : List Int} (h : RTry w0 b11 o wr vP vE ps es) (hb : Below wr.heap.size wr w') : RTry w0 b11 o w' vP vE ps es :=
  ⟨h.bel.trans (hb.mono h.bel.size), blk_below h.r11 hb, h.P.below hb, h.E.below hb, h.d3⟩
theorem RTry.two {w0 : World} {b11 : Nat} {o o' : Int} {W0 W : World} {vP vE vP' vE' : Value} {ps es ps' es' : List Int} (h : RTry w0 b11 o W0 vP vE ps es)
    (ht : TwoRows w0.heap.size b11 24 W0 vP vE W #[.int .i64 0, .int .i64 o', vP', vE'] vP' vE' ps' es') : RTry w0 b11 o' W vP' vE' ps' es' :=
  ⟨h.bel.trans ht.below, ht.box, ht.P, ht.E, ht.dis⟩
end Go.Proofs.Ytfhekkoibmlmpaa.Hand

/- Contracts of layer 8, proved by hand: RiceBest. -/
namespace Go.Proofs.Ytfhekkoibmlmpaa.Hand
open Go.RowKit Go.Proofs.Ytfhekkoibmlmpaa.Q Go.Proofs.YtfhekkoibmlmpaaW.PrintWords Go.Proofs.YtfhekkoibmlmpaaW.PrintLast Go.Proofs.YtfhekkoibmlmpaaW.PrintMore
set_option linter.unusedVariables false
set_option linter.unusedSimpArgs false

theorem C_len {w : World} {A : Option Addr} {xs : List Int} (h : Kd.C (Kd.int .i64) w A xs.length xs) : xs.length ≤ 9223372036854775807 := h.2.1
end Go.Proofs.Ytfhekkoibmlmpaa.Hand

/- Contracts of layer 8, proved by hand: the reference's Encode, whole. -/
namespace Go.Proofs.Ytfhekkoibmlmpaa.Hand
open Go.RowKit Go.Proofs.Ytfhekkoibmlmpaa.Q Go.Proofs.YtfhekkoibmlmpaaW.PrintWords Go.Proofs.YtfhekkoibmlmpaaW.PrintLast Go.Proofs.YtfhekkoibmlmpaaW.PrintMore
set_option linter.unusedVariables false
set_option linter.unusedSimpArgs false

/-- How many bits are written. -/
theorem fold_short (x : Int) (h : -4000 ≤ x ∧ x ≤ 4000) : foldN x ≤ 8000 := by
  unfold foldN
  split <;> omega
theorem codeX_short (k e x : Int) (h : -4000 ≤ x ∧ x ≤ 4000) (k1 : k ≤ 30) (e1 : e ≤ 31) : (codeX k e x).length ≤ 8040 := by
  unfold codeX
  by_cases he : e < 0
  · rw [if_pos he]
    have := fold_short x h
    have h2 : foldN x / 2 ^ k.toNat ≤ foldN x := Nat.div_le_self _ _
    unfold riceB
    rw [List.length_append, List.length_replicate, List.length_cons, nbits_length]
    omega
  · rw [if_neg he]
    by_cases he0 : 0 < e
    · rw [if_pos he0, nbits_length]
      omega
    · rw [if_neg he0]
      simp
theorem bodyX_short (k e : Int) (l : List Int) (h : ∀ x ∈ l, -4000 ≤ x ∧ x ≤ 4000) (k1 : k ≤ 30) (e1 : e ≤ 31) : (bodyX k e l).length ≤ 8040 * l.length := by
  induction l with
  | nil => simp [bodyX]
  | cons x r ih =>
    have h3 := codeX_short k e x (h x List.mem_cons_self) k1 e1
    have h4 := ih (fun y hy => h y (List.mem_cons_of_mem _ hy))
    have e : bodyX k e (x :: r) = codeX k e x ++ bodyX k e r := by simp [bodyX]
    rw [e, List.length_append, List.length_cons]
    omega
theorem partsX_short (wide n order : Nat) (ps es l : List Int) (cnt m : Nat) (hw : wide ≤ 5) (h : ∀ x ∈ l, -4000 ≤ x ∧ x ≤ 4000) (hok : ∀ i, i < cnt → rd ps (i : Int) ≤ 30 ∧ rd es (i : Int) ≤ 31) (hm : m ≤ cnt) : (partsX wide n order ps es l m).length ≤ 10 * m + 8040 * (m * n) := by
  induction m with
  | zero => simp [partsX]
  | succ m ih =>
    have ih2 := ih (by omega)
    obtain ⟨k1, e1⟩ := hok m (by omega)
    have hb := bodyX_short _ _ (partL l n order m) (fun x hx => h x (List.mem_of_mem_take (List.mem_of_mem_drop hx))) k1 e1
    have hl := partL_length l n order m
    have hh := headX_length wide (rd ps (m : Int)) (rd es (m : Int)) hw
    have hmul : (m + 1) * n = m * n + n := Nat.succ_mul m n
    rw [partsX_snoc, List.length_append]
    unfold partX
    rw [List.length_append]
    omega
theorem bitsE_short (m o block order : Int) (ps es l : List Int) (h : ∀ x ∈ l, -4000 ≤ x ∧ x ≤ 4000) (hc : canE m o ps es block order l) : (bitsE m o ps es block order l).length ≤ 600000000 := by
  obtain ⟨hck, hlen, hall⟩ := hc
  obtain ⟨O, Bk, Od, n, rfl, rfl, rfl, hO, hB0, hB1, hOd, hdiv, hdn, hn, hm⟩ := shape_nat hck.1
  have hps : ps.length = 2 ^ O := by have := hck.2.1; rwa [Int.toNat_natCast] at this
  have h15 : 2 ^ O ≤ 2 ^ 15 := Nat.pow_le_pow_right (by decide) hO
  have e15 : (2 : Nat) ^ 15 = 32768 := by decide
  have hmw : 4 + m.toNat ≤ 5 := by omega
  have := partsX_short (4 + m.toNat) n Od ps es l ps.length ps.length hmw h (fun i hi => by
    obtain ⟨k0, k1, e0, e1, _⟩ := hck.2.2.2 i hi
    exact ⟨by split at k1 <;> omega, e1⟩) (Nat.le_refl _)
  unfold bitsE
  rw [hn, Int.toNat_natCast, Int.toNat_natCast, List.length_append, List.length_append, nbits_length, nbits_length]
  rw [hps] at this ⊢
  rw [← hdiv] at this
  omega
end Go.Proofs.Ytfhekkoibmlmpaa.Hand

/- Contracts of layer 8, proved by hand: RiceBack. -/
namespace Go.Proofs.Ytfhekkoibmlmpaa.Hand
open Go.RowKit Go.Proofs.Ytfhekkoibmlmpaa.Q Go.Proofs.YtfhekkoibmlmpaaW.PrintWords Go.Proofs.YtfhekkoibmlmpaaW.PrintLast Go.Proofs.YtfhekkoibmlmpaaW.PrintMore
set_option linter.unusedVariables false
set_option linter.unusedSimpArgs false

theorem shortP_in {l : List Int} (h : shortP l) : ∀ x ∈ l, -9223372036854775808 ≤ x ∧ x ≤ 9223372036854775807 := fun x hx => by have := h.1 x hx; omega
set_option maxHeartbeats 16000000 in
set_option maxRecDepth 100000 in
theorem BackLaw_any (m o n0 n1 : Int) (ps es l : List Int) (AP AE A : Option Addr) (cP cE c : Nat) (w : World) (m0 : -9223372036854775808 ≤ m) (m1 : m ≤ 9223372036854775807) (hP : Kd.C (Kd.int .i64) w AP ps.length ps) (hcP : ps.length ≤ cP) (hE : Kd.C (Kd.int .i64) w AE es.length es) (hcE : es.length ≤ cE)
    (hA : Kd.C (Kd.int .i64) w A l.length l) (hc : l.length ≤ c) :
    Calls Try.prog 5 #[.agg #[.int .i64 m, .int .i64 o, .slice AP ps.length cP, .slice AE es.length cE], .agg #[.int .i64 n0, .int .i64 n1], .slice A l.length c] w fun e w' => e = .returned (.bool true) ∧ Below w.heap.size w w' := by
  have hup := Try.underlying28
  have hup2 := Try.underlying45
  have hbel := below_alloc (below_alloc (Below.refl w.heap.size w) (.cells #[.int .i64 m, .int .i64 o, .slice AP ps.length cP, .slice AE es.length cE] 24 (0, 0))) (.cells #[.int .i64 n0, .int .i64 n1] 25 (0, 0))
  have hz : ((w.alloc (.cells #[.int .i64 m, .int .i64 o, .slice AP ps.length cP, .slice AE es.length cE] 24 (0, 0))).alloc (.cells #[.int .i64 n0, .int .i64 n1] 25 (0, 0))).heap[w.heap.size]? = some (.cells #[.int .i64 m, .int .i64 o, .slice AP ps.length cP, .slice AE es.length cE] 24 (0, 0)) := blk_alloc (blk_new w _) _
  have hx : ((w.alloc (.cells #[.int .i64 m, .int .i64 o, .slice AP ps.length cP, .slice AE es.length cE] 24 (0, 0))).alloc (.cells #[.int .i64 n0, .int .i64 n1] 25 (0, 0))).heap[w.heap.size + 1]? = some (.cells #[.int .i64 n0, .int .i64 n1] 25 (0, 0)) := by simpa using blk_new (w.alloc (.cells #[.int .i64 m, .int .i64 o, .slice AP ps.length cP, .slice AE es.length cE] 24 (0, 0))) (.cells #[.int .i64 n0, .int .i64 n1] 25 (0, 0))
  have HSH : Aside0 (∀ W, Below w.heap.size w W → Calls Try.prog 8 #[.slice A l.length c] W fun e w' => e = .returned (.bool (decide (shortP l))) ∧ Drawn0 W w') := ⟨fun W hW => short_any l (C_len hA) A c W (Kd.C_below hA hW) hc⟩
  have HA := Aside0.mk hA
  have HP := Aside0.mk hP
  have HE := Aside0.mk hE
  have HZ1 := Aside0.mk hz
  have HX1 := Aside0.mk hx
  have HB1 := Aside0.mk hbel
  clear hbel hz hx hA hP hE
  by_cases hs : shortP l
  · rw [decide_eq_true hs] at HSH
    have HS := Aside0.mk hs
    clear hs
    go_enter Try.func5, Try.ntmps5
    go_wp2_with fail
    with_reducible refine (HSH.out _ HB1.out).mono ?_
    rintro e w3 ⟨rfl, hd3⟩
    have HZ3 := Aside0.mk (blk_below HZ1.out hd3.below)
    have HX3 := Aside0.mk (blk_below HX1.out hd3.below)
    have HB3 : Aside0 (Below w.heap.size w w3) := ⟨HB1.out.trans (hd3.below.mono HB1.out.size)⟩
    have HP3 := Aside0.mk (Kd.C_below HP.out HB3.out)
    have HE3 := Aside0.mk (Kd.C_below HE.out HB3.out)
    have HA3 := Aside0.mk (Kd.C_below HA.out HB3.out)
    clear hd3 HB1 HZ1 HX1 HSH HA HP HE
    have HW4 := Aside0.mk (new_at w3 w3.heap.size (Nat.le_refl _))
    have hb4 := below_alloc (Below.refl w3.heap.size w3) (.cells #[.int .i64 0, .slice none 0 0] 64)
    go_wp2_with fail
    refine (New_any _).mono ?_
    rintro e w4 ⟨rfl, rfl⟩
    generalize w3.alloc (.cells #[.int .i64 0, .slice none 0 0] 64) = w4 at HW4 hb4 ⊢
    have hno : ∀ k, (Value.slice none 0 0).ownBlock = some k → w3.heap.size ≤ k := fun k hk => by simp [Value.ownBlock] at hk
    have hen := Encode_any m o n0 n1 AP AE A cP cE c ps es l [] w3.heap.size w3.heap.size (.slice none 0 0) w4 m0 m1 (shortP_in HS.out) hcP hcE hc HW4.out (ListAt.elder HP3.out hb4 (Nat.le_refl _) hno) (ListAt.elder HE3.out hb4 (Nat.le_refl _) hno) (ListAt.elder HA3.out hb4 (Nat.le_refl _) hno) (by simp)
    rw [List.nil_append] at hen
    have HEN := Aside0.mk hen
    have HBB4 : Aside0 (Below w3.heap.size w3 w4) := ⟨hb4⟩
    have HZ4 := Aside0.mk (blk_below HZ3.out hb4)
    have HX4 := Aside0.mk (blk_below HX3.out hb4)
    have HW3 := Aside0.mk HB3.out.size
    clear hen hb4 hno HW4
    have c0 := blk_cell HZ4.out 0
    have c1 := blk_cell HZ4.out 1
    have c2 := blk_cell HZ4.out 2
    have c3 := blk_cell HZ4.out 3
    have d0 := blk_cell HX4.out 0
    have d1 := blk_cell HX4.out 1
    by_cases hcan : canE m o ps es n0 n1 l
    · rw [if_pos hcan, if_pos hcan] at HEN
      have HCAN := Aside0.mk hcan
      clear hcan
      go_wp2_with fail
      with_reducible refine HEN.out.mono ?_
      rintro e w5 ⟨rfl, v5, hw5, hm5⟩
      have HB5 := Aside0.mk (HBB4.out.trans hm5.below)
      have HW5 := Aside0.mk hw5
      have HSH := Aside0.mk (bitsE_short m o n0 n1 ps es l HS.out.1 HCAN.out)
      have HDEC : Aside0 (∀ s, Holds s (bitsE m o ps es n0 n1 l) → decF s 0 n0 n1 = (m, o, l, ps, es, 0, (bitsE m o ps es n0 n1 l).length)) := ⟨fun s hs => by
        have := dec_back (A := []) (R := []) m o n0 n1 ps es l hs (by simp) HCAN.out
        rw [List.length_nil, Nat.zero_add] at this
        exact this⟩
      clear hw5 hm5 HBB4 HZ4 HX4 c0 c1 c2 c3 d0 d1 HEN
      generalize bitsE m o ps es n0 n1 l = bx at HW5 HSH HDEC
      have HBY := Aside0.mk (Bytes_any bx _ _ v5 w5 HW5.out)
      have HDE0 := Aside0.mk (HDEC.out _ (text_holds bx))
      have HSS : Aside0 ((strOfNums (pack bx)).size ≤ 281474976710656) := ⟨by rw [pack_size]; have := HSH.out; omega⟩
      generalize strOfNums (pack bx) = s at HBY HDE0 HSS
      clear HDEC HCAN
      go_wp2_with fail
      with_reducible refine HBY.out.mono ?_
      rintro e w5' ⟨rfl, rfl⟩
      clear HBY
      go_wp2_with fail
      with_reducible refine (Of_any s w5).mono ?_
      rintro e w6 ⟨rfl, rfl⟩
      have hR6 : RAt (w5.alloc (.cells #[.int .i64 0, .string s] 75)) w5.heap.size s 0 := blk_new w5 _
      have hb6 := below_alloc (Below.refl w5.heap.size w5) (.cells #[.int .i64 0, .string s] 75)
      generalize w5.alloc (.cells #[.int .i64 0, .string s] 75) = w6 at hR6 hb6 ⊢
      have hde := Decode_any s HSS.out 0 (Nat.zero_le _) n0 n1 w5.heap.size w5.heap.size (Nat.le_refl _) w6 hb6.size hR6
      rw [HDE0.out] at hde
      have HDE := Aside0.mk hde
      have HB6 := Aside0.mk hb6
      have h36 : Below w3.heap.size w3 w6 := HB5.out.trans (hb6.mono HB5.out.size)
      have HX6 := Aside0.mk (blk_below HX3.out h36)
      have d0 := blk_cell HX6.out 0
      have d1 := blk_cell HX6.out 1
      clear hR6 hb6 hde h36
      go_wp2_with fail
      with_reducible refine HDE.out.mono ?_
      rintro e w7 ⟨vl, vP', vE', rfl, hl7, hp7, he7, ⟨q, hr7, hq7, hq0⟩, ht7⟩
      have hqb : q = bx.length := hq0 (by first | rfl | trivial)
      subst hqb
      have HB7 := Aside0.mk (HB6.out.trans ht7.below)
      obtain ⟨AL, cL, rfl, hcL, hCL⟩ := hl7.C
      obtain ⟨AP', cP', rfl, hcP', hCP'⟩ := hp7.C
      obtain ⟨AE', cE', rfl, hcE', hCE'⟩ := he7.C
      have HL7 := Aside0.mk hCL
      have HP7 := Aside0.mk hCP'
      have HE7 := Aside0.mk hCE'
      have HR7 := Aside0.mk hr7
      clear hl7 hp7 he7 hr7 hq7 hq0 ht7 hCL hCP' hCE' HDE HB6 HX6 d0 d1
      have HN := Aside0.mk (blk_new w7 (.cells zRice 24 (0, 0)))
      have hbN := below_setRow (below_alloc (Below.refl w7.heap.size w7) (.cells zRice 24 (0, 0))) (Nat.le_refl _) #[.int .i64 m, .int .i64 o, .slice AP' ps.length cP', .slice AE' es.length cE']
      have HX8 := Aside0.mk (setRow_heap _ _ _ #[.int .i64 m, .int .i64 o, .slice AP' ps.length cP', .slice AE' es.length cE'] _ _ HN.out)
      have HB8 := Aside0.mk hbN
      clear hbN
      go_upto_region 12 with ((with_reducible refine wpList_store_row ?_ 24 (.tmp 10) (.tmp 47) ?_ (w7.heap.size) (#[.int .i64 m, .int .i64 o, .slice AP' ps.length cP', .slice AE' es.length cE']) ?_ ?_ 24 (zRice) (HN.out) (rc_info _ _ _ _) ?_ (rc_one _ _ _ _ _ _ _ _) ?_); rfl; rfl; rfl; rfl; rfl)
      generalize (w7.alloc (.cells zRice 24 (0, 0))).setRow w7.heap.size #[.int .i64 m, .int .i64 o, .slice AP' ps.length cP', .slice AE' es.length cE'] = w8 at *
      obtain ⟨g8, hg8⟩ : ∃ g8, w7.heap.size = g8 := ⟨_, rfl⟩
      rw [hg8] at HX8 ⊢
      clear HN hg8
      have HF : Aside0 (∀ W, Below w8.heap.size w8 W → WAt W w3.heap.size w3.heap.size v5 bx ∧ RAt W w5.heap.size s bx.length ∧ W.heap[w.heap.size]? = some (.cells #[.int .i64 m, .int .i64 o, .slice AP ps.length cP, .slice AE es.length cE] 24 (0, 0)) ∧ W.heap[g8]? = some (.cells #[.int .i64 m, .int .i64 o, .slice AP' ps.length cP', .slice AE' es.length cE'] 24 (0, 0)) ∧
          Kd.C (Kd.int .i64) W A l.length l ∧ Kd.C (Kd.int .i64) W AP ps.length ps ∧ Kd.C (Kd.int .i64) W AE es.length es ∧ Kd.C (Kd.int .i64) W AL l.length l ∧ Kd.C (Kd.int .i64) W AP' ps.length ps ∧ Kd.C (Kd.int .i64) W AE' es.length es ∧ Below w.heap.size w W) := ⟨fun W hW => by
        have h78 : Below w7.heap.size w7 W := HB8.out.trans (hW.mono HB8.out.size)
        have h58 : Below w5.heap.size w5 W := HB7.out.trans (h78.mono HB7.out.size)
        have h38 : Below w3.heap.size w3 W := HB5.out.trans (h58.mono HB5.out.size)
        exact ⟨HW5.out.below h58, HR7.out.below h78, blk_below HZ3.out h38, blk_below HX8.out hW, Kd.C_below HA3.out h38, Kd.C_below HP3.out h38, Kd.C_below HE3.out h38, Kd.C_below HL7.out h78, Kd.C_below HP7.out h78, Kd.C_below HE7.out h78, HB3.out.trans (h38.mono HW3.out)⟩⟩
      have HLE := Aside0.mk (fun W hW => Len_any bx _ _ v5 W (HF.out W hW).1)
      have HIN : Aside0 (∀ W, Below w8.heap.size w8 W → Calls Try.prog 23 #[.slice A l.length c, .slice AL l.length cL] W fun e w' => e = .returned (.bool true) ∧ Drawn0 W w') := ⟨fun W hW => Ints_same l (C_len HA3.out) A c AL cL W (HF.out W hW).2.2.2.2.1 hc (HF.out W hW).2.2.2.2.2.2.2.1 hcL⟩
      have HSA : Aside0 (∀ W, Below w8.heap.size w8 W → Calls Try.prog 24 #[.agg #[.int .i64 m, .int .i64 o, .slice AP ps.length cP, .slice AE es.length cE], .agg #[.int .i64 m, .int .i64 o, .slice AP' ps.length cP', .slice AE' es.length cE']] W fun e w' => e = .returned (.bool true) ∧ Below W.heap.size W w') := ⟨fun W hW =>
        Same_same m o ps es (C_len HE3.out) (C_len HP3.out) AP AE AP' AE' cP cE cP' cE' W (HF.out W hW).2.2.2.2.2.1 hcP (HF.out W hW).2.2.2.2.2.2.1 hcE (HF.out W hW).2.2.2.2.2.2.2.2.1 hcP' (HF.out W hW).2.2.2.2.2.2.2.2.2.1 hcE'⟩
      have HAT := Aside0.mk (fun W hW => At_any s bx.length w5.heap.size W (HF.out W hW).2.1)
      have hlb : ((bx.length : Int) == (bx.length : Int)) = true := by simp
      clear HB8 HX8 HL7 HP7 HE7 HR7 HB7 HB5 HB3 HZ3 HX3 HP3 HE3 HA3 HW5
      go_wp2_with fail
      with_reducible refine (HIN.out _ (Below.refl _ _)).mono ?_
      rintro e w9 ⟨rfl, hd9⟩
      have HB9 : Aside0 (Below w8.heap.size w8 w9) := ⟨hd9.below⟩
      clear hd9
      obtain ⟨f1, f2, f3, f4, f5, f6, f7, f8, f9, f10, f11⟩ := HF.out w9 HB9.out
      have c0 := blk_cell f3 0
      have c1 := blk_cell f3 1
      have c2 := blk_cell f3 2
      have c3 := blk_cell f3 3
      have d0 := blk_cell f4 0
      have d1 := blk_cell f4 1
      have d2 := blk_cell f4 2
      have d3 := blk_cell f4 3
      clear f1 f2 f3 f4 f5 f6 f7 f8 f9 f10 f11
      go_wp2_with fail
      with_reducible refine (HSA.out _ HB9.out).mono ?_
      rintro e w10 ⟨rfl, hb10⟩
      have HB10 : Aside0 (Below w8.heap.size w8 w10) := ⟨HB9.out.trans (hb10.mono HB9.out.size)⟩
      clear hb10 c0 c1 c2 c3 d0 d1 d2 d3
      go_wp2_with fail
      with_reducible refine (HAT.out _ HB10.out).mono ?_
      rintro e w11 ⟨rfl, hd11⟩
      have HB11 : Aside0 (Below w8.heap.size w8 w11) := ⟨HB10.out.trans (hd11.below.mono HB10.out.size)⟩
      clear hd11
      go_wp2_with fail
      with_reducible refine (HLE.out _ HB11.out).mono ?_
      rintro e w12 ⟨rfl, rfl⟩
      go_wp2_with fail
      with_reducible refine (awake_any _).mono ?_
      rintro e w13 ⟨rfl, hb13⟩
      have HB13 : Aside0 (Below w8.heap.size w8 w13) := ⟨HB11.out.trans (hb13.mono HB11.out.size)⟩
      clear hb13
      go_wp2
      go_ret
      exact ⟨rfl, (HF.out _ HB13.out).2.2.2.2.2.2.2.2.2.2⟩
    · rw [if_neg hcan, if_neg hcan] at HEN
      clear hcan
      go_wp2_with fail
      with_reducible refine HEN.out.mono ?_
      rintro e w5 ⟨rfl, v5, hw5, hm5⟩
      have HB5 : Aside0 (Below w.heap.size w w5) := ⟨HB3.out.trans ((HBB4.out.trans hm5.below).mono HW3.out)⟩
      have HLE := Aside0.mk (Len_any [] _ _ v5 w5 hw5)
      clear hw5 hm5 HBB4 HZ4 HX4 c0 c1 c2 c3 d0 d1 HEN
      rw [List.length_nil] at HLE
      go_wp2_with fail
      with_reducible refine HLE.out.mono ?_
      rintro e w6 ⟨rfl, rfl⟩
      go_wp2_with fail
      with_reducible refine (awake_any _).mono ?_
      rintro e w13 ⟨rfl, hb13⟩
      have HB13 := Aside0.mk (HB5.out.trans (hb13.mono HB5.out.size))
      clear hb13
      go_wp2
      go_ret
      exact ⟨rfl, HB13.out⟩
  · rw [decide_eq_false hs] at HSH
    clear hs
    go_enter Try.func5, Try.ntmps5
    go_wp2_with fail
    with_reducible refine (HSH.out _ HB1.out).mono ?_
    rintro e w3 ⟨rfl, hd3⟩
    have HB3 : Aside0 (Below w.heap.size w w3) := ⟨HB1.out.trans (hd3.below.mono HB1.out.size)⟩
    clear hd3 HB1 HSH HZ1 HX1
    go_wp2_with fail
    with_reducible refine (awake_any _).mono ?_
    rintro e w9 ⟨rfl, hb9⟩
    have HB9 := Aside0.mk (HB3.out.trans (hb9.mono HB3.out.size))
    clear hb9
    go_wp2
    go_ret
    exact ⟨rfl, HB9.out⟩
end Go.Proofs.Ytfhekkoibmlmpaa.Hand
