/- Texts of this claim's proof, laid behind each other by a program of ours, without what the proof does not reach: Contracts of layer 8, proved by hand: try, whatever comes; what the best recipe is; Contracts of layer 8, proved by hand: Best; Contracts of layer 8, proved by hand: what is the same is the same; short lists; Contracts of layer 1, proved by hand: the reference's writer; Plain words of layer 8: the reference's Check, part and Cost; Contracts of layer 8, proved by hand: the reference's Encode; where it is refused ahead; its words; Contracts of layer 8, proved by hand: awake; Contracts of layer 8, proved by hand: the reference's Best, its words; Contracts of layer 8, proved by hand: the reference's Best, whole; Contracts of layer 8, proved by hand: RiceBest -/
import Derived.Laws.StructEq
import Derived.Laws.MakeOwn
import Derived.Test.YtfhekkoibmlmpaaBst1
import Derived.Test.YtfhekkoibmlmpaaBst2
import Derived.Test.YtfhekkoibmlmpaaBst3
import Derived.Test.YtfhekkoibmlmpaaBst4
import Derived.Test.YtfhekkoibmlmpaaBst5
import Derived.Test.YtfhekkoibmlmpaaBst6
import Derived.Test.YtfhekkoibmlmpaaBst7
import Derived.Test.YtfhekkoibmlmpaaBstWApart
import Derived.Test.YtfhekkoibmlmpaaBstWFoot
import Derived.Test.YtfhekkoibmlmpaaBstWGuard
import Derived.Test.YtfhekkoibmlmpaaBstWInv
import Derived.Test.YtfhekkoibmlmpaaBstWKept
import Derived.Test.YtfhekkoibmlmpaaBstWLast
import Derived.Test.YtfhekkoibmlmpaaBstWMore
import Derived.Test.YtfhekkoibmlmpaaBstWN
import Derived.Test.YtfhekkoibmlmpaaBstWRepsOne
import Derived.Test.YtfhekkoibmlmpaaBstWShare
import Derived.Test.YtfhekkoibmlmpaaBstWTab
import Derived.Test.YtfhekkoibmlmpaaBstWWords
/- Contracts of layer 8, proved by hand: try, whatever comes; what the best recipe is. -/
namespace Go.Proofs.Ytfhekkoibmlmpaa.Hand
open Go.RowKit Go.Proofs.Ytfhekkoibmlmpaa.Q Go.Proofs.YtfhekkoibmlmpaaW.PrintWords Go.Proofs.YtfhekkoibmlmpaaW.PrintLast Go.Proofs.YtfhekkoibmlmpaaW.PrintMore
set_option linter.unusedVariables false
set_option linter.unusedSimpArgs false

/-- The number of bits, the parameters, the escapes of the best recipe of one order; none: there is none. -/
def tryF (block order : Int) (l : List Int) (o : Int) : Option (Int × List Int × List Int) :=
  if shapeP 0 o block order ∧ (l.length : Int) = block - order then tryL l (block / 2 ^ o.toNat).toNat order.toNat (2 ^ o.toNat) 0 6 [] [] else none
theorem try_any (o block order : Int) (l : List Int) (A : Option Addr) (c : Nat) (w : World) (hc : l.length ≤ c) (hA : Kd.C (Kd.int .i64) w A l.length l)
    (hin : ∀ x ∈ l, -9223372036854775808 ≤ x ∧ x ≤ 9223372036854775807) :
    Calls Try.prog 46 #[.int .i64 o, .int .i64 block, .int .i64 order, .slice A l.length c] w (TryPost o (tryF block order l o) w.heap.size w) := by
  by_cases h : shapeP 0 o block order ∧ (l.length : Int) = block - order
  · have e : tryF block order l o = tryL l (block / 2 ^ o.toNat).toNat order.toNat (2 ^ o.toNat) 0 6 [] [] := if_pos h
    rw [e]
    obtain ⟨hsh, hlen⟩ := h
    obtain ⟨O, Bk, Od, n, rfl, rfl, rfl, hO15, hB0, hB1, hOd, hdiv, hdn, hn, hm⟩ := shape_nat hsh
    rw [hn, Int.toNat_natCast, Int.toNat_natCast]
    exact try_go O Bk Od n l A c w hsh hO15 hB1 hOd hdiv hdn (by omega) hc hA hin
  · have e : tryF block order l o = none := if_neg h
    rw [e]
    refine (try_no o block order l A c w ?_).mono fun e w' ⟨h1, h2⟩ => .inl ⟨rfl, h1, h2⟩
    by_cases hs : shapeP 0 o block order
    · exact .inr ⟨hs, fun hl => h ⟨hs, hl⟩⟩
    · exact .inl hs
/-- A recipe with its bits: the order, the parameters, the escapes, how many bits (-1: none). -/
def betterF (b : Int × List Int × List Int × Int) (o : Int) : Option (Int × List Int × List Int) → Int × List Int × List Int × Int
  | none => b
  | some (n, ps, es) => if 0 ≤ n ∧ (b.2.2.2 < 0 ∨ n < b.2.2.2) then (o, ps, es, n) else b
def bestL (block order : Int) (l : List Int) : Nat → Nat → Int × List Int × List Int × Int → Int × List Int × List Int × Int
  | 0, _, b => b
  | d + 1, o, b => bestL block order l d (o + 1) (betterF b (o : Int) (tryF block order l (o : Int)))
def bestF (block order : Int) (l : List Int) : Int × List Int × List Int × Int := bestL block order l 5 0 (0, [], [], -1)
end Go.Proofs.Ytfhekkoibmlmpaa.Hand

/- Contracts of layer 8, proved by hand: Best. -/
namespace Go.Proofs.Ytfhekkoibmlmpaa.Hand
open Go.RowKit Go.Proofs.Ytfhekkoibmlmpaa.Q Go.Proofs.YtfhekkoibmlmpaaW.PrintWords Go.Proofs.YtfhekkoibmlmpaaW.PrintLast Go.Proofs.YtfhekkoibmlmpaaW.PrintMore
set_option linter.unusedVariables false
set_option linter.unusedSimpArgs false

structure BestSt (w : World) (b6 b8 : Nat) (o : Int) (wr : World) (vP vE : Value) (ps es : List Int) : Prop where
  bel : Below w.heap.size w wr
  z6 : wr.heap[b6]? = some (.cells zRice 24 (0, 0))
  r8 : wr.heap[b8]? = some (.cells #[.int .i64 0, .int .i64 o, vP, vE] 24 (0, 0))
  P : IntsAt wr w.heap.size vP ps
  E : IntsAt wr w.heap.size vE es
theorem BestSt.below {w : World} {b6 b8 : Nat} {o : Int} {wr w' : World} {vP vE : Value} {ps es : List Int} (h : BestSt w b6 b8 o wr vP vE ps es) (hb : Below wr.heap.size wr w') : BestSt w b6 b8 o w' vP vE ps es :=
  ⟨h.bel.trans (hb.mono h.bel.size), blk_below h.z6 hb, blk_below h.r8 hb, h.P.below hb, h.E.below hb⟩
theorem BestSt.put {w : World} {b6 b8 : Nat} {o o' : Int} {wr : World} {vP vE vP' vE' : Value} {ps es ps' es' : List Int} (h : BestSt w b6 b8 o wr vP vE ps es) (h68 : b6 ≠ b8) (h8 : w.heap.size ≤ b8) (hP : IntsAt wr w.heap.size vP' ps') (hE : IntsAt wr w.heap.size vE' es') :
    BestSt w b6 b8 o' (wr.setRow b8 #[.int .i64 0, .int .i64 o', vP', vE']) vP' vE' ps' es' :=
  ⟨below_setRow h.bel h8 _, by rw [setRow_other _ _ _ _ h68]; exact h.z6, setRow_heap _ _ _ _ _ _ h.r8, hP.setRow h.r8 (by decide), hE.setRow h.r8 (by decide)⟩
theorem better_take {bo o n sum : Int} {ps es ps' es' : List Int} (h : 0 ≤ sum ∧ (n < 0 ∨ sum < n)) : betterF (bo, ps, es, n) o (some (sum, ps', es')) = (o, ps', es', sum) := if_pos h
theorem better_keep {bo o n sum : Int} {ps es ps' es' : List Int} (h : ¬ (0 ≤ sum ∧ (n < 0 ∨ sum < n))) : betterF (bo, ps, es, n) o (some (sum, ps', es')) = (bo, ps, es, n) := if_neg h
set_option maxHeartbeats 16000000 in
set_option maxRecDepth 100000 in
theorem Best_any (block order : Int) (l : List Int) (A : Option Addr) (c : Nat) (w : World) (hc : l.length ≤ c) (hA : Kd.C (Kd.int .i64) w A l.length l)
    (hin : ∀ x ∈ l, -9223372036854775808 ≤ x ∧ x ≤ 9223372036854775807) :
    Calls Try.prog 26 #[.int .i64 block, .int .i64 order, .slice A l.length c] w fun e w' => ∃ vP vE,
      e = .returned (.tuple #[.agg #[.int .i64 0, .int .i64 (bestF block order l).1, vP, vE], .int .i64 (bestF block order l).2.2.2]) ∧
      IntsAt w' w.heap.size vP (bestF block order l).2.1 ∧ IntsAt w' w.heap.size vE (bestF block order l).2.2.1 ∧ Below w.heap.size w w' := by
  have HTRY : Aside0 (∀ (i : Nat) (W : World), Below w.heap.size w W → Calls Try.prog 46 #[.int .i64 i, .int .i64 block, .int .i64 order, .slice A l.length c] W (TryPost i (tryF block order l i) W.heap.size W)) := ⟨fun i W hW =>
    try_any i block order l A c W hc (Kd.C_below hA hW) hin⟩
  obtain ⟨X, hX⟩ : ∃ X, bestF block order l = X := ⟨_, rfl⟩
  rw [hX]
  have HX := Aside0.mk hX
  clear hX hA hin hc
  have hb1 : Below w.heap.size w ((w.alloc (.cells zRice 24 (0, 0))).alloc (.cells zRice 24 (0, 0))) := below_alloc (below_alloc (Below.refl _ _) _) _
  have hz : ((w.alloc (.cells zRice 24 (0, 0))).alloc (.cells zRice 24 (0, 0))).heap[w.heap.size]? = some (.cells zRice 24 (0, 0)) := blk_alloc (blk_new w _) _
  have hx : ((w.alloc (.cells zRice 24 (0, 0))).alloc (.cells zRice 24 (0, 0))).heap[w.heap.size + 1]? = some (.cells zRice 24 (0, 0)) := by simpa using blk_new (w.alloc (.cells zRice 24 (0, 0))) (.cells zRice 24 (0, 0))
  have hst0 : BestSt w w.heap.size (w.heap.size + 1) 0 (((w.alloc (.cells zRice 24 (0, 0))).alloc (.cells zRice 24 (0, 0))).setRow (w.heap.size + 1) zRice) (.slice none 0 0) (.slice none 0 0) [] [] :=
    ⟨below_setRow hb1 (Nat.le_succ _) _, by rw [setRow_other _ _ _ _ (by omega)]; exact hz, setRow_heap _ _ _ _ _ _ hx, IntsAt.nil _ _, IntsAt.nil _ _⟩
  have HST := Aside0.mk hst0
  have HXX := Aside0.mk hx
  have h68 : w.heap.size ≠ w.heap.size + 1 := by omega
  have hC8 : w.heap.size ≤ w.heap.size + 1 := by omega
  clear hb1 hz hx hst0
  go_enter Try.func26, Try.ntmps26
  go_upto_region 2 with ((with_reducible refine wpList_store_row ?_ 24 (.tmp 8) (.tmp 13) ?_ (w.heap.size + 1) zRice ?_ ?_ 24 zRice HXX.out (rc_info _ _ _ _) ?_ (rc_one _ _ _ _ _ _ _ _) ?_); rfl; rfl; rfl; rfl; rfl)
  generalize ((w.alloc (.cells zRice 24 (0, 0))).alloc (.cells zRice 24 (0, 0))).setRow (w.heap.size + 1) zRice = w1 at *
  generalize w.heap.size + 1 = b8 at *
  clear HXX
  go_wp2
  go_loopw [9, 14] (fun sv iv wr => ∃ (i : Nat) (bo n : Int) (vP vE : Value) (ps es : List Int), i ≤ 5 ∧ iv = .int .i64 i ∧ sv = .int .i64 n ∧ Aside0 (BestSt w w.heap.size b8 bo wr vP vE ps es) ∧ Aside0 (bestL block order l (5 - i) i (bo, ps, es, n) = X)) (fun _ iv _ => 5 - (intOf iv).toNat)
  case atStart => exact ⟨0, 0, -1, .slice none 0 0, .slice none 0 0, [], [], by omega, rfl, rfl, HST, HX⟩
  case round =>
    clear HST HX
    obtain ⟨i, bo, n, vP, vE, ps, es, hi, rfl, rfl, HST, HX⟩ := hrel
    by_cases hlt : i < 5
    · have i1 : (i : Int) < 5 := by omega
      obtain ⟨d, hd⟩ : ∃ d, 5 - i = d + 1 := ⟨5 - i - 1, by omega⟩
      have hd2 : 5 - (i + 1) = d := by omega
      have HD := Aside0.mk hd2
      have HX2 : Aside0 (bestL block order l d (i + 1) (betterF (bo, ps, es, n) (i : Int) (tryF block order l (i : Int))) = X) := ⟨by
        have := HX.out
        rw [hd] at this
        exact this⟩
      have HT := Aside0.mk (HTRY.out i wr HST.out.bel)
      clear HX hd hd2
      generalize tryF block order l (i : Int) = Y at HT HX2
      go_wp2_with fail
      with_reducible refine HT.out.mono ?_
      rintro e w4 hpost
      clear HT
      rcases hpost with ⟨rfl, rfl, hb4⟩ | ⟨sum, ps', es', vP', vE', rfl, rfl, hP', hE', hb4⟩
      · have HST4 := Aside0.mk (HST.out.below (hb4.trans ((below_setRow (below_alloc (Below.refl w4.heap.size w4) (.cells zRice 24 (0, 0))) (Nat.le_refl _) zRice).mono hb4.size)))
        have HN := Aside0.mk (blk_new w4 (.cells zRice 24 (0, 0)))
        clear hb4 HST
        go_wp2_with ((with_reducible refine wpList_store_row ?_ 24 (.tmp 11) (.tmp 23) ?_ (w4.heap.size) (zRice) ?_ ?_ 24 (zRice) (HN.out) (rc_info _ _ _ _) ?_ (rc_one _ _ _ _ _ _ _ _) ?_); rfl; rfl; rfl; rfl; rfl)
        go_roundw
        case rel => exact ⟨i + 1, bo, n, vP, vE, ps, es, by omega, by go_num, rfl, HST4, ⟨by rw [HD.out]; exact HX2.out⟩⟩
        case measure => simp [intOf]; omega
      · obtain ⟨AP, nP, cP, eP⟩ := hP'.shape
        subst eP
        obtain ⟨AE, nE, cE, eE⟩ := hE'.shape
        subst eE
        have hbN : Below w4.heap.size w4 ((w4.alloc (.cells zRice 24 (0, 0))).setRow w4.heap.size #[.int .i64 0, .int .i64 (i : Int), .slice AP nP cP, .slice AE nE cE]) := below_setRow (below_alloc (Below.refl w4.heap.size w4) (.cells zRice 24 (0, 0))) (Nat.le_refl _) _
        have HST4 := Aside0.mk (HST.out.below (hb4.trans (hbN.mono hb4.size)))
        have HP4 := Aside0.mk ((hP'.lower HST.out.bel.size).below hbN)
        have HE4 := Aside0.mk ((hE'.lower HST.out.bel.size).below hbN)
        have HN := Aside0.mk (blk_new w4 (.cells zRice 24 (0, 0)))
        have HN4 := Aside0.mk (setRow_heap _ _ _ #[.int .i64 0, .int .i64 (i : Int), .slice AP nP cP, .slice AE nE cE] _ _ HN.out)
        clear hb4 HST hP' hE' hbN
        go_upto_region 6 with ((with_reducible refine wpList_store_row ?_ 24 (.tmp 11) (.tmp 23) ?_ (w4.heap.size) (#[.int .i64 0, .int .i64 (i : Int), .slice AP nP cP, .slice AE nE cE]) ?_ ?_ 24 (zRice) (HN.out) (rc_info _ _ _ _) ?_ (rc_one _ _ _ _ _ _ _ _) ?_); rfl; rfl; rfl; rfl; rfl)
        generalize (w4.alloc (.cells zRice 24 (0, 0))).setRow w4.heap.size #[.int .i64 0, .int .i64 (i : Int), .slice AP nP cP, .slice AE nE cE] = w5 at *
        generalize w4.heap.size = b11 at *
        clear HN
        by_cases g0 : 0 ≤ sum
        · by_cases g1 : n < 0
          · have HX3 : Aside0 (bestL block order l d (i + 1) ((i : Int), ps', es', sum) = X) := ⟨by have := HX2.out; rwa [better_take (by omega)] at this⟩
            clear HX2
            have HST6 := Aside0.mk (HST4.out.put (o' := (i : Int)) h68 hC8 HP4.out HE4.out)
            have HR8 := Aside0.mk HST4.out.r8
            have c0 := blk_cell HN4.out 0
            have c1 := blk_cell HN4.out 1
            have c2 := blk_cell HN4.out 2
            have c3 := blk_cell HN4.out 3
            go_wp2_with ((with_reducible refine wpList_store_row ?_ 24 (.tmp 8) (.tmp 36) ?_ (b8) (#[.int .i64 0, .int .i64 (i : Int), .slice AP nP cP, .slice AE nE cE]) ?_ ?_ 24 (#[.int .i64 0, .int .i64 bo, vP, vE]) (HR8.out) (rc_info _ _ _ _) ?_ (rc_one _ _ _ _ _ _ _ _) ?_); rfl; rfl; rfl; rfl; rfl)
            clear c0 c1 c2 c3
            go_roundw
            case rel => exact ⟨i + 1, (i : Int), sum, _, _, ps', es', by omega, by go_num, rfl, HST6, ⟨by rw [HD.out]; exact HX3.out⟩⟩
            case measure => simp [intOf]; omega
          · by_cases g2 : sum < n
            · have HX3 : Aside0 (bestL block order l d (i + 1) ((i : Int), ps', es', sum) = X) := ⟨by have := HX2.out; rwa [better_take (by omega)] at this⟩
              clear HX2
              have HST6 := Aside0.mk (HST4.out.put (o' := (i : Int)) h68 hC8 HP4.out HE4.out)
              have HR8 := Aside0.mk HST4.out.r8
              have c0 := blk_cell HN4.out 0
              have c1 := blk_cell HN4.out 1
              have c2 := blk_cell HN4.out 2
              have c3 := blk_cell HN4.out 3
              go_wp2_with ((with_reducible refine wpList_store_row ?_ 24 (.tmp 8) (.tmp 36) ?_ (b8) (#[.int .i64 0, .int .i64 (i : Int), .slice AP nP cP, .slice AE nE cE]) ?_ ?_ 24 (#[.int .i64 0, .int .i64 bo, vP, vE]) (HR8.out) (rc_info _ _ _ _) ?_ (rc_one _ _ _ _ _ _ _ _) ?_); rfl; rfl; rfl; rfl; rfl)
              clear c0 c1 c2 c3
              go_roundw
              case rel => exact ⟨i + 1, (i : Int), sum, _, _, ps', es', by omega, by go_num, rfl, HST6, ⟨by rw [HD.out]; exact HX3.out⟩⟩
              case measure => simp [intOf]; omega
            · have HX3 : Aside0 (bestL block order l d (i + 1) (bo, ps, es, n) = X) := ⟨by have := HX2.out; rwa [better_keep (by omega)] at this⟩
              clear HX2
              go_wp2
              go_roundw
              case rel => exact ⟨i + 1, bo, n, vP, vE, ps, es, by omega, by go_num, rfl, HST4, ⟨by rw [HD.out]; exact HX3.out⟩⟩
              case measure => simp [intOf]; omega
        · have g0' : sum < 0 := by omega
          have HX3 : Aside0 (bestL block order l d (i + 1) (bo, ps, es, n) = X) := ⟨by have := HX2.out; rwa [better_keep (by omega)] at this⟩
          clear HX2
          go_wp2
          go_roundw
          case rel => exact ⟨i + 1, bo, n, vP, vE, ps, es, by omega, by go_num, rfl, HST4, ⟨by rw [HD.out]; exact HX3.out⟩⟩
          case measure => simp [intOf]; omega
    · obtain rfl : i = 5 := by omega
      have HXS : Aside0 (X = (bo, ps, es, n)) := ⟨HX.out.symm⟩
      clear HX
      obtain ⟨AP, nP, cP, eP⟩ := HST.out.P.shape
      subst eP
      obtain ⟨AE, nE, cE, eE⟩ := HST.out.E.shape
      subst eE
      have c0 := blk_cell HST.out.r8 0
      have c1 := blk_cell HST.out.r8 1
      have c2 := blk_cell HST.out.r8 2
      have c3 := blk_cell HST.out.r8 3
      go_wp2_with ((with_reducible refine wpList_store_row ?_ 24 (.tmp 6) (.tmp 39) ?_ (w.heap.size) (#[.int .i64 0, .int .i64 bo, .slice AP nP cP, .slice AE nE cE]) ?_ ?_ 24 (zRice) (HST.out.z6) (rc_info _ _ _ _) ?_ (rc_one _ _ _ _ _ _ _ _) ?_); rfl; rfl; rfl; rfl; rfl)
      refine bodyPost_ret (results_ct rfl _ _ w.heap.size 24 #[.int .i64 0, .int .i64 bo, .slice AP nP cP, .slice AE nE cE] (0, 0) _ rfl (setRow_heap _ _ _ _ _ _ HST.out.z6) Try.underlying24 rfl (rc_info _ _ _ _)) rfl ?_
      rw [HXS.out]
      exact ⟨_, _, rfl, HST.out.P.setRow HST.out.z6 (by decide), HST.out.E.setRow HST.out.z6 (by decide), below_setRow HST.out.bel (Nat.le_refl _) _⟩
end Go.Proofs.Ytfhekkoibmlmpaa.Hand

/- Contracts of layer 8, proved by hand: what is the same is the same; short lists. -/
namespace Go.Proofs.Ytfhekkoibmlmpaa.Hand
open Go.RowKit Go.Proofs.Ytfhekkoibmlmpaa.Q Go.Proofs.YtfhekkoibmlmpaaW.PrintWords Go.Proofs.YtfhekkoibmlmpaaW.PrintLast Go.Proofs.YtfhekkoibmlmpaaW.PrintMore
set_option linter.unusedVariables false
set_option linter.unusedSimpArgs false

theorem ints_loop (a : List Int) (h : a.length ≤ 9223372036854775807) : ∀ d i : Nat, i + d = a.length → lacquerref05_Ints.l0 (d + 1) a a (i : Int) = some true
  | 0, i, hi => by
    simp only [lacquerref05_Ints.l0]
    rw [if_neg (by omega)]
  | d + 1, i, hi => by
    have ih := ints_loop a h d (i + 1) (by omega)
    rw [lacquerref05_Ints.l0]
    rw [if_pos (by omega), if_pos (by omega), if_pos (by omega), if_pos rfl, w64h _ (by omega) (by omega)]
    exact ih
theorem Ints_same (l : List Int) (hl : l.length ≤ 9223372036854775807) (A : Option Addr) (c : Nat) (B : Option Addr) (d : Nat) (w : World) (hA : Kd.C (Kd.int .i64) w A l.length l) (hc : l.length ≤ c) (hB : Kd.C (Kd.int .i64) w B l.length l) (hd : l.length ≤ d) :
    Calls Try.prog 23 #[.slice A l.length c, .slice B l.length d] w fun e w' => e = .returned (.bool true) ∧ Drawn0 w w' := by
  refine lacquerref05_Ints.calls (l.length + 1) A c l B d l true w hA hc hB hd ?_
  unfold lacquerref05_Ints.f
  rw [if_pos rfl]
  exact ints_loop l hl l.length 0 (by omega)
theorem same_l1 (m o : Int) (ps es : List Int) (h : es.length ≤ 9223372036854775807) : ∀ d i : Nat, i + d = es.length → lacquerref08_Same.l1 (d + 1) (i : Int) m o ps es m o ps es = some true
  | 0, i, hi => by
    simp only [lacquerref08_Same.l1]
    rw [if_neg (by omega)]
  | d + 1, i, hi => by
    have ih := same_l1 m o ps es h d (i + 1) (by omega)
    rw [lacquerref08_Same.l1]
    rw [if_pos (by omega), if_pos (by omega), if_pos (by omega), if_pos rfl, w64h _ (by omega) (by omega)]
    exact ih
theorem same_l0 (m o : Int) (ps es : List Int) (h : es.length ≤ 9223372036854775807) (hp : ps.length ≤ 9223372036854775807) : ∀ d i : Nat, i + d = ps.length → lacquerref08_Same.l0 (d + 1 + (es.length + 1)) (i : Int) m o ps es m o ps es = some true
  | 0, i, hi => by
    rw [show 0 + 1 + (es.length + 1) = (es.length + 1) + 1 by omega, lacquerref08_Same.l0]
    rw [if_neg (by omega)]
    exact same_l1 m o ps es h es.length 0 (by omega)
  | d + 1, i, hi => by
    have ih := same_l0 m o ps es h hp d (i + 1) (by omega)
    rw [show d + 1 + 1 + (es.length + 1) = (d + 1 + (es.length + 1)) + 1 by omega, lacquerref08_Same.l0]
    rw [if_pos (by omega), if_pos (by omega), if_pos (by omega), if_pos rfl, w64h _ (by omega) (by omega)]
    exact ih
theorem Same_same (m o : Int) (ps es : List Int) (h : es.length ≤ 9223372036854775807) (hp : ps.length ≤ 9223372036854775807) (AP AE BP BE : Option Addr) (cP cE dP dE : Nat) (w : World) (hAP : Kd.C (Kd.int .i64) w AP ps.length ps) (hcP : ps.length ≤ cP)
    (hAE : Kd.C (Kd.int .i64) w AE es.length es) (hcE : es.length ≤ cE) (hBP : Kd.C (Kd.int .i64) w BP ps.length ps) (hdP : ps.length ≤ dP) (hBE : Kd.C (Kd.int .i64) w BE es.length es) (hdE : es.length ≤ dE) :
    Calls Try.prog 24 #[.agg #[.int .i64 m, .int .i64 o, .slice AP ps.length cP, .slice AE es.length cE], .agg #[.int .i64 m, .int .i64 o, .slice BP ps.length dP, .slice BE es.length dE]] w fun e w' => e = .returned (.bool true) ∧ Below w.heap.size w w' := by
  refine lacquerref08_Same.calls (ps.length + 1 + (es.length + 1) + 1) m o AP cP ps AE cE es m o BP dP ps BE dE es true w hAP hcP hAE hcE hBP hdP hBE hdE ?_
  unfold lacquerref08_Same.f
  rw [if_pos rfl, if_pos rfl, if_pos rfl, lacquerref08_Same.j0]
  rw [if_neg (by simp)]
  exact same_l0 m o ps es h hp ps.length 0 (by omega)
/-- Short lists. -/
def shortP (l : List Int) : Prop := (∀ x ∈ l, -4000 ≤ x ∧ x ≤ 4000) ∧ l.length ≤ 5000
instance (l : List Int) : Decidable (shortP l) := by unfold shortP; infer_instance
theorem short_l0 (l : List Int) (h : l.length ≤ 9223372036854775807) : ∀ d i : Nat, i + d = l.length → lacquerlaw08_short.l0 (d + 1) l (i : Int) = some (decide ((∀ x ∈ l.drop i, -4000 ≤ x ∧ x ≤ 4000) ∧ l.length ≤ 5000))
  | 0, i, hi => by
    simp only [lacquerlaw08_short.l0]
    rw [if_neg (by omega), List.drop_eq_nil_of_le (by omega)]
    congr 1
    simp
    omega
  | d + 1, i, hi => by
    have ih := short_l0 l h d (i + 1) (by omega)
    have hlt : i < l.length := by omega
    have hrd : rd l (i : Nat) = l[i] := by simp [rd, hlt]
    rw [lacquerlaw08_short.l0]
    rw [if_pos (by omega), if_pos (by omega), w64h _ (by omega) (by omega), List.drop_eq_getElem_cons hlt, ← hrd]
    generalize rd l (i : Nat) = x
    by_cases h1 : x > 4000
    · rw [if_pos h1, decide_eq_false]
      intro hh
      have := hh.1 x List.mem_cons_self
      omega
    · rw [if_neg h1]
      by_cases h2 : x < -4000
      · rw [if_pos h2, decide_eq_false]
        intro hh
        have := hh.1 x List.mem_cons_self
        omega
      · rw [if_neg h2]
        refine ih.trans ?_
        congr 1
        rw [decide_eq_decide]
        simp only [List.forall_mem_cons]
        constructor
        · exact fun hh => ⟨⟨⟨by omega, by omega⟩, hh.1⟩, hh.2⟩
        · exact fun hh => ⟨hh.1.2, hh.2⟩
theorem short_any (l : List Int) (h : l.length ≤ 9223372036854775807) (A : Option Addr) (c : Nat) (w : World) (hA : Kd.C (Kd.int .i64) w A l.length l) (hc : l.length ≤ c) :
    Calls Try.prog 8 #[.slice A l.length c] w fun e w' => e = .returned (.bool (decide (shortP l))) ∧ Drawn0 w w' := by
  refine lacquerlaw08_short.calls (l.length + 1) A c l _ w hA hc ?_
  unfold lacquerlaw08_short.f
  have := short_l0 l h l.length 0 (by omega)
  rw [List.drop_zero] at this
  exact this
end Go.Proofs.Ytfhekkoibmlmpaa.Hand

/- Contracts of layer 1, proved by hand: the reference's writer. -/
namespace Go.Proofs.Ytfhekkoibmlmpaa.Hand
open Go.RowKit
set_option linter.unusedVariables false
set_option linter.unusedSimpArgs false

end Go.Proofs.Ytfhekkoibmlmpaa.Hand
namespace Go.Proofs.Ytfhekkoibmlmpaa.Hand
open Go.RowKit Go.Proofs.Ytfhekkoibmlmpaa.Q Go.Proofs.YtfhekkoibmlmpaaW.PrintWords Go.Proofs.YtfhekkoibmlmpaaW.PrintLast Go.Proofs.YtfhekkoibmlmpaaW.PrintMore
set_option linter.unusedVariables false
set_option linter.unusedSimpArgs false

def b01 (b : Bool) : Int := if b then 1 else 0
def ones (bs : List Bool) : List Int := bs.map b01
theorem ones_snoc (bs : List Bool) (b : Bool) : ones (bs ++ [b]) = ones bs ++ [b01 b] := by simp [ones]
/-- The reference's writer of these bits: a byte each. -/
def XW (w : World) (B g : Nat) (v : Value) (bs : List Bool) : Prop := w.heap[g]? = some (.cells #[v] 33 (0, 0)) ∧ BytesAt w B v (ones bs) ∧ B ≤ g
theorem XW.below {w w' : World} {B g : Nat} {v : Value} {bs : List Bool} (h : XW w B g v bs) (hb : Below w.heap.size w w') : XW w' B g v bs := ⟨blk_below h.1 hb, h.2.1.below hb, h.2.2⟩
theorem XW.lt {w : World} {B g : Nat} {v : Value} {bs : List Bool} (h : XW w B g v bs) : g < w.heap.size := blk_lt h.1
theorem XW.grown {W w1 : World} {B g : Nat} {v : Value} {bs : List Bool} (h : XW W B g v bs) (hg : W.grownBy w1 v.ownBlock) : w1.heap[g]? = some (.cells #[v] 33 (0, 0)) := by
  rw [hg.block g h.lt (fun e => ?_)]
  · exact h.1
  · exact Kd.R_ne h.2.1.all h.1 (by decide) e
theorem XW.put {w1 : World} {B g : Nat} {v v1 : Value} {bs : List Bool} {one : Bool} (hb : w1.heap[g]? = some (.cells #[v] 33 (0, 0))) (hr : BytesAt w1 B v1 (ones bs ++ [b01 one])) (hB : B ≤ g) : XW (w1.setCell ⟨g, 0, none⟩ v1) B g v1 (bs ++ [one]) := by
  rw [← ones_snoc] at hr
  exact ⟨blk_put hb 0 v1 rfl, hr.set hb (by decide) 0 v1, hB⟩
end Go.Proofs.Ytfhekkoibmlmpaa.Hand
namespace Go.Proofs.Ytfhekkoibmlmpaa.Hand
open Go.RowKit Go.Proofs.Ytfhekkoibmlmpaa.Q Go.Proofs.YtfhekkoibmlmpaaW.PrintWords Go.Proofs.YtfhekkoibmlmpaaW.PrintLast Go.Proofs.YtfhekkoibmlmpaaW.PrintMore
set_option linter.unusedVariables false
set_option linter.unusedSimpArgs false

end Go.Proofs.Ytfhekkoibmlmpaa.Hand
namespace Go.Proofs.Ytfhekkoibmlmpaa.Hand
open Go.RowKit Go.Proofs.Ytfhekkoibmlmpaa.Q Go.Proofs.YtfhekkoibmlmpaaW.PrintWords Go.Proofs.YtfhekkoibmlmpaaW.PrintLast Go.Proofs.YtfhekkoibmlmpaaW.PrintMore
set_option linter.unusedVariables false
set_option linter.unusedSimpArgs false

end Go.Proofs.Ytfhekkoibmlmpaa.Hand

/- Plain words of layer 8: the reference's Check, part and Cost. -/
namespace Go.Proofs.Ytfhekkoibmlmpaa.Hand
open Go.RowKit Go.Proofs.Ytfhekkoibmlmpaa.Q Go.Proofs.YtfhekkoibmlmpaaW.PrintWords Go.Proofs.YtfhekkoibmlmpaaW.PrintLast Go.Proofs.YtfhekkoibmlmpaaW.PrintMore
set_option linter.unusedVariables false
set_option linter.unusedSimpArgs false

theorem xpart_eq (m : Int) (O Bk Od n i : Nat) (ps es : List Int) (hO : O ≤ 15) (hB : Bk ≤ 65535) (hd : Od ≤ 32) (hdiv : Bk = 2 ^ O * n) (hon : Od ≤ n) (hi : i < 2 ^ O) :
    lacquerref08_part.f m O ps es Bk Od i = some (((i * n - Od : Nat) : Int), (((i + 1) * n - Od : Nat) : Int)) := by
  have hw : IntKind.u64.wrap (O : Int) = (O : Int) := by rw [u64_wrap]; omega
  have hp := Nat.two_pow_pos O
  have hsr : shr .i64 (Bk : Int) (O : Int) = (n : Int) := by
    rw [shr_lo _ _ (by omega), hdiv]
    have e : (2 : Int) ^ O = ((2 ^ O : Nat) : Int) := by simp
    rw [e, ← Int.natCast_ediv, Nat.mul_div_cancel_left n hp]
  have h1 : (i + 1) * n ≤ 2 ^ O * n := Nat.mul_le_mul_right n (by omega)
  have h2 : (i + 1) * n = i * n + n := Nat.succ_mul i n
  have hO2 : 2 ^ O ≤ 2 ^ 15 := Nat.pow_le_pow_right (by decide) hO
  have e15 : (2 : Nat) ^ 15 = 32768 := by decide
  unfold lacquerref08_part.f
  rw [hw, if_pos (by omega), hsr, w64h ((i : Int) + 1) (by omega) (by omega)]
  have e1 : (i : Int) * (n : Int) = ((i * n : Nat) : Int) := by simp
  have e2 : ((i : Int) + 1) * (n : Int) = (((i + 1) * n : Nat) : Int) := by simp
  rw [e1, e2, w64h (((i + 1) * n : Nat) : Int) (by omega) (by omega), w64h ((i * n : Nat) : Int) (by omega) (by omega), w64h _ (by omega) (by omega)]
  by_cases h0 : i = 0
  · subst h0
    rw [if_pos (by decide)]
    refine congrArg some (Prod.ext ?_ ?_)
    · show (0 : Int) = ((0 * n - Od : Nat) : Int)
      rw [Nat.zero_mul, Nat.zero_sub]; rfl
    · show (((0 + 1) * n : Nat) : Int) - (Od : Int) = (((0 + 1) * n - Od : Nat) : Int)
      omega
  · have h3 : 1 * n ≤ i * n := Nat.mul_le_mul_right n (by omega)
    rw [if_neg (by omega), w64h _ (by omega) (by omega)]
    refine congrArg some (Prod.ext ?_ ?_)
    · show ((i * n : Nat) : Int) - (Od : Int) = ((i * n - Od : Nat) : Int)
      omega
    · show (((i + 1) * n : Nat) : Int) - (Od : Int) = (((i + 1) * n - Od : Nat) : Int)
      omega
theorem fold_f (n : Int) (h0 : -9223372036854775808 ≤ n) (h1 : n ≤ 9223372036854775807) : lacquerref01_Fold.f n = some (foldN n : Int) := by
  unfold lacquerref01_Fold.f foldN
  by_cases h : n ≥ 0
  · rw [if_pos h, if_pos (by omega)]
    congr 1
    rw [u64_wrap, u64_wrap]
    omega
  · rw [if_neg h, if_neg (by omega)]
    congr 1
    rw [u64_wrap, u64_wrap, u64_wrap]
    unfold wrap64
    omega
theorem xcost_l0 (l : List Int) (K : Nat) (hK : K ≤ 30) (hl : l.length ≤ 65535) (hin : ∀ x ∈ l, -9223372036854775808 ≤ x ∧ x ≤ 9223372036854775807) : ∀ (d i : Nat) (acc : Int), i + d = l.length → 0 ≤ acc → acc ≤ 16777300 * i →
    Ev (fun k => lacquerref08_Cost.l0 k l (K : Nat) acc (i : Nat)) (cstR K (l.drop i) (acc + (d : Int) * (1 + (K : Int))))
  | 0, i, acc, hi, h0, h1 => by
    rw [List.drop_eq_nil_of_le (by omega)]
    refine Ev.step (f := fun _ => some acc) (fun k => ?_) ?_
    · simp only [lacquerref08_Cost.l0]
      rw [if_neg (by omega)]
    · have : acc + ((0 : Nat) : Int) * (1 + (K : Int)) = acc := by simp
      rw [this]
      exact Ev.now _
  | d + 1, i, acc, hi, h0, h1 => by
    have hlt : i < l.length := by omega
    have hrd : rd l (i : Nat) = l[i] := by simp [rd, hlt]
    obtain ⟨x0, x1⟩ := hin _ (rd_mem l i hlt)
    have hw : IntKind.u64.wrap (K : Int) = (K : Int) := by rw [u64_wrap]; omega
    have hf := fold_f _ x0 x1
    have hs : shr .u64 ((foldN (rd l (i : Nat)) : Nat) : Int) (K : Int) = ((foldN (rd l (i : Nat)) / 2 ^ K : Nat) : Int) := shr_u _ _ (by omega)
    rw [List.drop_eq_getElem_cons hlt, ← hrd]
    have ih := xcost_l0 l K hK hl hin d (i + 1)
    unfold cstR
    have key : ∀ k, lacquerref08_Cost.l0 (k + 1) l (K : Nat) acc (i : Nat) = if ((foldN (rd l (i : Nat)) / 2 ^ K : Nat) : Int) > 16777216 then some (-1) else lacquerref08_Cost.l0 k l (K : Nat) (wrap64 (acc + wrap64 (wrap64 (wrap64 ((foldN (rd l (i : Nat)) / 2 ^ K : Nat) : Int) + 1) + (K : Int)))) (wrap64 ((i : Int) + 1)) := fun k => by
      conv => lhs; simp only [lacquerref08_Cost.l0]
      rw [if_pos (by omega), if_pos (by omega), hf, Option.bind_some, hw, if_pos (by omega), hs]
    generalize foldN (rd l (i : Nat)) / 2 ^ K = u at key ⊢
    by_cases hu : 16777216 < u
    · rw [if_pos hu]
      exact Ev.step (f := fun _ => some (-1)) (fun k => by rw [key k, if_pos (by omega)]) (Ev.now _)
    · rw [if_neg hu]
      have ih2 := ih (acc + (u : Int) + 1 + (K : Int)) (by omega) (by omega) (by omega)
      have e : acc + (u : Int) + 1 + (K : Int) + (d : Int) * (1 + (K : Int)) = acc + ((d + 1 : Nat) : Int) * (1 + (K : Int)) + (u : Int) := by
        rw [Int.natCast_add, Int.add_mul]
        simp
        omega
      rw [e] at ih2
      refine Ev.step (fun k => ?_) ih2
      rw [key k, if_neg (by omega), w64h (u : Int) (by omega) (by omega), w64h ((u : Int) + 1) (by omega) (by omega), w64h ((u : Int) + 1 + (K : Int)) (by omega) (by omega), w64h (acc + ((u : Int) + 1 + (K : Int))) (by omega) (by omega), w64h ((i : Int) + 1) (by omega) (by omega)]
      rw [show acc + ((u : Int) + 1 + (K : Int)) = acc + (u : Int) + 1 + (K : Int) by omega]
      rfl
theorem xcost_ev (l : List Int) (k : Int) (hl : l.length ≤ 65535) (hin : ∀ x ∈ l, -9223372036854775808 ≤ x ∧ x ≤ 9223372036854775807) : Ev (fun n => lacquerref08_Cost.f n l k) (costF l k) := by
  have hno : Ev (fun n => lacquerref08_Cost.j0 n l k true) (-1) := Ev.step (f := fun _ => some (-1)) (fun n => by simp only [lacquerref08_Cost.j0]; rw [if_pos trivial]) (Ev.now _)
  unfold costF
  by_cases h0 : k < 0
  · rw [if_pos (.inl h0)]
    exact Ev.congr (fun n => by unfold lacquerref08_Cost.f; rw [if_pos h0]) hno
  by_cases h1 : 30 < k
  · rw [if_pos (.inr h1)]
    exact Ev.congr (fun n => by unfold lacquerref08_Cost.f; rw [if_neg h0, decide_eq_true (by omega)]) hno
  rw [if_neg (by omega)]
  obtain ⟨K, rfl⟩ := Int.eq_ofNat_of_zero_le (show 0 ≤ k by omega)
  rw [Int.toNat_natCast]
  have := xcost_l0 l K (by omega) hl hin l.length 0 0 (by omega) (by omega) (by omega)
  rw [List.drop_zero, Int.zero_add] at this
  refine Ev.congr (f := fun n => lacquerref08_Cost.j0 n l (K : Int) false) (fun n => by unfold lacquerref08_Cost.f; rw [if_neg h0, decide_eq_false (by omega)]) (Ev.step (fun n => ?_) this)
  simp only [lacquerref08_Cost.j0]
  rw [if_neg (by decide)]
  rfl
end Go.Proofs.Ytfhekkoibmlmpaa.Hand

/- Contracts of layer 8, proved by hand: the reference's Encode; where it is refused ahead; its words. -/
namespace Go.Proofs.Ytfhekkoibmlmpaa.Hand
open Go.RowKit Go.Proofs.Ytfhekkoibmlmpaa.Q Go.Proofs.YtfhekkoibmlmpaaW.PrintWords Go.Proofs.YtfhekkoibmlmpaaW.PrintLast Go.Proofs.YtfhekkoibmlmpaaW.PrintMore
set_option linter.unusedVariables false
set_option linter.unusedSimpArgs false

section
variable {ops : Array Oper} {o : Oper} {a : Act} {Q : Exit → Act → World → Prop} {Kc : Act → World → Prop} {rest : List Oper}
end
theorem C_cell {w : World} {A : Option Addr} {xs : List Int} (h : Kd.C (Kd.int .i64) w A xs.length xs) (i : Nat) (hi : i < xs.length) : ∃ ad, A = some ad ∧ w.cell? (ad.add i) = some (.int .i64 (rd xs (i : Int))) := by
  have hr : ReadsInt w .i64 A xs.length xs := Kd.reads_of_C (d := (0 : Int)) (enc := Value.int .i64) h
  obtain ⟨ad, e, hx⟩ := hr.at_ (i : Int) (by omega) (by omega)
  rw [Int.toNat_natCast] at hx
  exact ⟨ad, e, hx⟩
/-- The number 1, shifted by a letter: all its forms. -/
structure Shl1 (oI : Int) (N : Nat) : Prop where
  j9 : IntKind.i64.wrap (1 * 2 ^ min oI.toNat 64) = (N : Int)
  j0 : IntKind.i64.wrap (1 * 2 ^ oI.toNat) = (N : Int)
  j1 : IntKind.i64.wrap (2 ^ min oI.toNat 64) = (N : Int)
  j2 : IntKind.i64.wrap (2 ^ oI.toNat) = (N : Int)
  j3 : wrap64 (1 * 2 ^ min oI.toNat 64) = (N : Int)
  j4 : wrap64 (2 ^ min oI.toNat 64) = (N : Int)
  u : IntKind.u64.wrap oI = oI
theorem shl1 (O N : Nat) (hO : O ≤ 15) (hN : 2 ^ O = N) : Shl1 (O : Int) N := by
  have h2 : 2 ^ O ≤ 2 ^ 15 := Nat.pow_le_pow_right (by decide) hO
  have e15 : (2 : Nat) ^ 15 = 32768 := by decide
  have hsl : (1 : Int) * 2 ^ min ((O : Int)).toNat 64 = (N : Int) := by
    rw [Int.toNat_natCast, Nat.min_eq_left (by omega), Int.one_mul, ← hN]
    simp
  have hmin : min ((O : Int)).toNat 64 = ((O : Int)).toNat := Nat.min_eq_left (by omega)
  have hj9 : IntKind.i64.wrap (1 * 2 ^ min ((O : Int)).toNat 64) = (N : Int) := by rw [hsl, IntKind.wrap_i64]; omega
  have hj0 : IntKind.i64.wrap (1 * 2 ^ ((O : Int)).toNat) = (N : Int) := by rw [hmin] at hj9; exact hj9
  have hj1 : IntKind.i64.wrap (2 ^ min ((O : Int)).toNat 64) = (N : Int) := by rw [Int.one_mul] at hj9; exact hj9
  have hj2 : IntKind.i64.wrap (2 ^ ((O : Int)).toNat) = (N : Int) := by rw [Int.one_mul] at hj0; exact hj0
  have hj3 : wrap64 (1 * 2 ^ min ((O : Int)).toNat 64) = (N : Int) := by rw [hsl]; unfold wrap64; omega
  have hj4 : wrap64 (2 ^ min ((O : Int)).toNat 64) = (N : Int) := by rw [Int.one_mul] at hj3; exact hj3
  exact ⟨hj9, hj0, hj1, hj2, hj3, hj4, by rw [u64_wrap]; omega⟩
end Go.Proofs.Ytfhekkoibmlmpaa.Hand

/- Contracts of layer 8, proved by hand: awake. -/
namespace Go.Proofs.Ytfhekkoibmlmpaa.Hand
open Go.RowKit Go.Proofs.Ytfhekkoibmlmpaa.Q Go.Proofs.YtfhekkoibmlmpaaW.PrintWords Go.Proofs.YtfhekkoibmlmpaaW.PrintLast Go.Proofs.YtfhekkoibmlmpaaW.PrintMore
set_option linter.unusedVariables false
set_option linter.unusedSimpArgs false

/-- A literal list. -/
theorem lit4 {w : World} {g : Nat} (h : w.heap[g]? = some (.cells #[.int .i64 0, .int .i64 (-1), .int .i64 1, .int .i64 2] 3 (0, 0))) : Kd.C (Kd.int .i64) w (some ⟨g, 0, none⟩) ([0, -1, 1, 2] : List Int).length [0, -1, 1, 2] := by
  refine Kd.C_of_reads (d := (0 : Int)) (enc := Value.int .i64) ⟨rfl, by simp, fun _ => ⟨_, rfl, fun j hj => ?_⟩⟩
  rw [add_plain]
  have hc := blk_cell h j
  rw [hc]
  match j, hj with
  | 0, _ => rfl
  | 1, _ => rfl
  | 2, _ => rfl
  | 3, _ => rfl
theorem best4 : bestF 4 0 [0, -1, 1, 2] = (0, [0], [-1], 21) := by decide +kernel
theorem can4 : canE 0 0 [0] [-1] 4 0 [0, -1, 1, 2] := by decide +kernel
theorem len4 : (bitsE 0 0 [0] [-1] 4 0 [0, -1, 1, 2]).length = 21 := by decide +kernel
theorem dec4 : decF (strOfNums (pack (bitsE 0 0 [0] [-1] 4 0 [0, -1, 1, 2]))) 0 4 0 = (0, 0, [0, -1, 1, 2], [0], [-1], 0, 21) := by
  have h := dec_back (A := []) (R := []) 0 0 4 0 [0] [-1] [0, -1, 1, 2] (text_holds (bitsE 0 0 [0] [-1] 4 0 [0, -1, 1, 2])) (by simp) can4
  rw [len4] at h
  exact h
theorem cost41 : costF [0, -1, 1, 2] 1 = 11 := by decide +kernel
theorem cost4n : costF [0, -1, 1, 2] 31 = -1 := by decide +kernel
theorem span4 : ∀ x ∈ ([0, -1, 1, 2] : List Int), -9223372036854775808 ≤ x ∧ x ≤ 9223372036854775807 := by decide
theorem Cost_any (l : List Int) (k : Int) (A : Option Addr) (c : Nat) (w : World) (hl : l.length ≤ 65535) (hin : ∀ x ∈ l, -9223372036854775808 ≤ x ∧ x ≤ 9223372036854775807) (hA : Kd.C (Kd.int .i64) w A l.length l) (hc : l.length ≤ c) :
    Calls Try.prog 28 #[.slice A l.length c, .int .i64 k] w fun e w' => e = .returned (.int .i64 (costF l k)) ∧ Drawn0 w w' := by
  obtain ⟨n, h⟩ := (cost_ev l k hl hin).rounds
  exact rice_Cost.calls n A c l k _ w hA hc h
theorem pack_size (bs : List Bool) : (strOfNums (pack bs)).size = (bs.length + 7) / 8 := by rw [size_nums, pack_length]
set_option maxHeartbeats 16000000 in
set_option maxRecDepth 100000 in
theorem awake_any (w : World) : Calls Try.prog 9 #[] w fun e w' => e = .returned (.bool true) ∧ Below w.heap.size w w' := by
  have hup := Try.underlying28
  have hup2 := Try.underlying45
  have hblk := blk_new w (.cells #[.int .i64 0, .int .i64 (-1), .int .i64 1, .int .i64 2] 3 (0, 0))
  have hbel := below_alloc (Below.refl w.heap.size w) (.cells #[.int .i64 0, .int .i64 (-1), .int .i64 1, .int .i64 2] 3 (0, 0))
  have hbe := Best_any 4 0 [0, -1, 1, 2] (some ⟨w.heap.size, 0, none⟩) 4 _ (by simp) (lit4 hblk) span4
  rw [best4] at hbe
  have HBE : Aside0 (Calls Try.prog 26 #[.int .i64 4, .int .i64 0, .slice (some ⟨w.heap.size, 0, none⟩) 4 4] (w.alloc (.cells #[.int .i64 0, .int .i64 (-1), .int .i64 1, .int .i64 2] 3 (0, 0))) fun e w' => ∃ vP vE, e = .returned (.tuple #[.agg #[.int .i64 0, .int .i64 0, vP, vE], .int .i64 21]) ∧
      IntsAt w' (w.alloc (.cells #[.int .i64 0, .int .i64 (-1), .int .i64 1, .int .i64 2] 3 (0, 0))).heap.size vP [0] ∧ IntsAt w' (w.alloc (.cells #[.int .i64 0, .int .i64 (-1), .int .i64 1, .int .i64 2] 3 (0, 0))).heap.size vE [-1] ∧ Below (w.alloc (.cells #[.int .i64 0, .int .i64 (-1), .int .i64 1, .int .i64 2] 3 (0, 0))).heap.size (w.alloc (.cells #[.int .i64 0, .int .i64 (-1), .int .i64 1, .int .i64 2] 3 (0, 0))) w') := ⟨hbe⟩
  have HC0 : Aside0 (Kd.C (Kd.int .i64) (w.alloc (.cells #[.int .i64 0, .int .i64 (-1), .int .i64 1, .int .i64 2] 3 (0, 0))) (some ⟨w.heap.size, 0, none⟩) 4 [0, -1, 1, 2]) := ⟨lit4 hblk⟩
  have HB0 := Aside0.mk hbel
  clear hblk hbel hbe
  go_enter Try.func9, Try.ntmps9
  go_wp2_with fail
  with_reducible refine HBE.out.mono ?_
  generalize w.alloc (.cells #[.int .i64 0, .int .i64 (-1), .int .i64 1, .int .i64 2] 3) = w0 at *
  rintro e w1 ⟨vP, vE, rfl, hP, hE, hb⟩
  obtain ⟨AP, cP, rfl, hcP, hCP⟩ := hP.C
  obtain ⟨AE, cE, rfl, hcE, hCE⟩ := hE.C
  have HB1 := Aside0.mk (HB0.out.trans (hb.mono HB0.out.size))
  have HC1 := Aside0.mk (Kd.C_below HC0.out hb)
  have HP1 : Aside0 (Kd.C (Kd.int .i64) w1 AP 1 [0]) := ⟨hCP⟩
  have HE1 : Aside0 (Kd.C (Kd.int .i64) w1 AE 1 [-1]) := ⟨hCE⟩
  have hcP1 : 1 ≤ cP := hcP
  have hcE1 : 1 ≤ cE := hcE
  clear hb hP hE hcP hcE hCP hCE HB0 HC0 HBE
  have HN := Aside0.mk (blk_new w1 (.cells zRice 24 (0, 0)))
  have hbN := below_setRow (below_alloc (Below.refl w1.heap.size w1) (.cells zRice 24 (0, 0))) (Nat.le_refl _) #[.int .i64 0, .int .i64 0, .slice AP 1 cP, .slice AE 1 cE]
  have HX2 := Aside0.mk (setRow_heap _ _ _ #[.int .i64 0, .int .i64 0, .slice AP 1 cP, .slice AE 1 cE] _ _ HN.out)
  have HB2 := Aside0.mk (HB1.out.trans (hbN.mono HB1.out.size))
  have HC2 := Aside0.mk (Kd.C_below HC1.out hbN)
  have HP2 := Aside0.mk (Kd.C_below HP1.out hbN)
  have HE2 := Aside0.mk (Kd.C_below HE1.out hbN)
  clear hbN HC1 HP1 HE1
  go_upto_region 3 with ((with_reducible refine wpList_store_row ?_ 24 (.tmp 2) (.tmp 14) ?_ (w1.heap.size) (#[.int .i64 0, .int .i64 0, .slice AP 1 cP, .slice AE 1 cE]) ?_ ?_ 24 (zRice) (HN.out) (rc_info _ _ _ _) ?_ (rc_one _ _ _ _ _ _ _ _) ?_); rfl; rfl; rfl; rfl; rfl)
  generalize (w1.alloc (.cells zRice 24 (0, 0))).setRow w1.heap.size #[.int .i64 0, .int .i64 0, .slice AP 1 cP, .slice AE 1 cE] = w2 at *
  generalize w1.heap.size = g2 at *
  clear HN
  have HW3 := Aside0.mk (new_at w2 w2.heap.size (Nat.le_refl _))
  have hb3 := below_alloc (Below.refl w2.heap.size w2) (.cells #[.int .i64 0, .slice none 0 0] 64)
  go_wp2_with fail
  refine (New_any _).mono ?_
  rintro e w3 ⟨rfl, rfl⟩
  generalize w2.alloc (.cells #[.int .i64 0, .slice none 0 0] 64) = w3 at HW3 hb3 ⊢
  have hsz : w.heap.size ≤ w2.heap.size := HB2.out.size
  have hg2 : g2 < w2.heap.size := blk_lt HX2.out
  have hLP : ListAt w3 w2.heap.size (.slice none 0 0) AP [0] := ListAt.elder HP2.out hb3 (Nat.le_refl _) (fun k hk => by simp [Value.ownBlock] at hk)
  have hLE : ListAt w3 w2.heap.size (.slice none 0 0) AE [-1] := ListAt.elder HE2.out hb3 (Nat.le_refl _) (fun k hk => by simp [Value.ownBlock] at hk)
  have hLL : ListAt w3 w2.heap.size (.slice none 0 0) (some ⟨w.heap.size, 0, none⟩) [0, -1, 1, 2] := ListAt.elder HC2.out hb3 (Nat.le_refl _) (fun k hk => by simp [Value.ownBlock] at hk)
  have hen := Encode_any 0 0 4 0 AP AE (some ⟨w.heap.size, 0, none⟩) cP cE 4 [0] [-1] [0, -1, 1, 2] [] w2.heap.size w2.heap.size (.slice none 0 0) w3 (by decide) (by decide) span4 hcP1 hcE1 (by simp) HW3.out hLP hLE hLL (by simp)
  rw [if_pos can4, if_pos can4, List.nil_append] at hen
  have HEN : Aside0 (Calls Try.prog 13 #[.pointer (some ⟨w2.heap.size, 0, none⟩), .agg #[.int .i64 0, .int .i64 0, .slice AP 1 cP, .slice AE 1 cE], .int .i64 4, .int .i64 0, .slice (some ⟨w.heap.size, 0, none⟩) 4 4] w3 fun e w' => e = .returned (.int .i64 0) ∧ ∃ v', WAt w' w2.heap.size w2.heap.size v' (bitsE 0 0 [0] [-1] 4 0 [0, -1, 1, 2]) ∧ Moved w2.heap.size w2.heap.size w3 (.slice none 0 0) w' v') := ⟨hen⟩
  have hb3' : Below w2.heap.size w2 w3 := hb3
  have HX3 := Aside0.mk (blk_below HX2.out hb3)
  have HBB3 := Aside0.mk hb3'
  have c0 := blk_cell HX3.out 0
  have c1 := blk_cell HX3.out 1
  have c2 := blk_cell HX3.out 2
  have c3 := blk_cell HX3.out 3
  clear hen hb3 hb3' hLP hLE hLL HW3
  go_wp2_with fail
  with_reducible refine HEN.out.mono ?_
  rintro e w4 ⟨rfl, v4, hw4, hm4⟩
  have HB4 := Aside0.mk (HBB3.out.trans hm4.below)
  have HW4 := Aside0.mk hw4
  have HLEN := Aside0.mk len4
  have HDEC := Aside0.mk dec4
  clear hw4 hm4 HBB3 HX3 c0 c1 c2 c3 HEN
  generalize bitsE 0 0 [0] [-1] 4 0 [0, -1, 1, 2] = bx at HW4 HLEN HDEC
  have HBY := Aside0.mk (Bytes_any bx _ _ v4 w4 HW4.out)
  have HSS : Aside0 ((strOfNums (pack bx)).size = 3) := ⟨by rw [pack_size, HLEN.out]⟩
  generalize strOfNums (pack bx) = s at HBY HDEC HSS
  go_wp2_with fail
  with_reducible refine HBY.out.mono ?_
  rintro e w4' ⟨rfl, rfl⟩
  clear HBY
  go_wp2_with fail
  with_reducible refine (Of_any s w4).mono ?_
  rintro e w5 ⟨rfl, rfl⟩
  have hR5 : RAt (w4.alloc (.cells #[.int .i64 0, .string s] 75)) w4.heap.size s 0 := blk_new w4 _
  have hb5 := below_alloc (Below.refl w4.heap.size w4) (.cells #[.int .i64 0, .string s] 75)
  generalize w4.alloc (.cells #[.int .i64 0, .string s] 75) = w5 at hR5 hb5 ⊢
  have hde := Decode_any s (by rw [HSS.out]; decide) 0 (Nat.zero_le _) 4 0 w4.heap.size w4.heap.size (Nat.le_refl _) w5 hb5.size hR5
  rw [HDEC.out] at hde
  have HDE := Aside0.mk hde
  have HB5 := Aside0.mk hb5
  clear hR5 hb5 hde
  go_wp2_with fail
  with_reducible refine HDE.out.mono ?_
  rintro e w6 ⟨vl, vP', vE', rfl, hl6, hp6, he6, ⟨q, hr6, hq6, hq0⟩, ht6⟩
  have hq21 : q = 21 := hq0 (by first | rfl | trivial)
  subst hq21
  have HB6 := Aside0.mk (HB5.out.trans ht6.below)
  obtain ⟨AL, cL, rfl, hcL, hCL⟩ := hl6.C
  obtain ⟨AP', cP', rfl, hcP', hCP'⟩ := hp6.C
  obtain ⟨AE', cE', rfl, hcE', hCE'⟩ := he6.C
  have HL6 : Aside0 (Kd.C (Kd.int .i64) w6 AL 4 [0, -1, 1, 2]) := ⟨hCL⟩
  have HP6 : Aside0 (Kd.C (Kd.int .i64) w6 AP' 1 [0]) := ⟨hCP'⟩
  have HE6 : Aside0 (Kd.C (Kd.int .i64) w6 AE' 1 [-1]) := ⟨hCE'⟩
  have HR6 := Aside0.mk hr6
  have hcL4 : 4 ≤ cL := hcL
  have hcP4 : 1 ≤ cP' := hcP'
  have hcE4 : 1 ≤ cE' := hcE'
  clear hl6 hp6 he6 hr6 hq6 hq0 ht6 hCL hCP' hCE' hcL hcP' hcE' HDE HB5
  have HN := Aside0.mk (blk_new w6 (.cells zRice 24 (0, 0)))
  have hbN := below_setRow (below_alloc (Below.refl w6.heap.size w6) (.cells zRice 24 (0, 0))) (Nat.le_refl _) #[.int .i64 0, .int .i64 0, .slice AP' 1 cP', .slice AE' 1 cE']
  have HX7 := Aside0.mk (setRow_heap _ _ _ #[.int .i64 0, .int .i64 0, .slice AP' 1 cP', .slice AE' 1 cE'] _ _ HN.out)
  have HB7 := Aside0.mk hbN
  clear hbN
  go_upto_region 11 with ((with_reducible refine wpList_store_row ?_ 24 (.tmp 8) (.tmp 32) ?_ (w6.heap.size) (#[.int .i64 0, .int .i64 0, .slice AP' 1 cP', .slice AE' 1 cE']) ?_ ?_ 24 (zRice) (HN.out) (rc_info _ _ _ _) ?_ (rc_one _ _ _ _ _ _ _ _) ?_); rfl; rfl; rfl; rfl; rfl)
  generalize (w6.alloc (.cells zRice 24 (0, 0))).setRow w6.heap.size #[.int .i64 0, .int .i64 0, .slice AP' 1 cP', .slice AE' 1 cE'] = w7 at *
  clear HN
  have HF : Aside0 (∀ W, Below w7.heap.size w7 W → WAt W w2.heap.size w2.heap.size v4 bx ∧ RAt W w4.heap.size s 21 ∧ W.heap[g2]? = some (.cells #[.int .i64 0, .int .i64 0, .slice AP 1 cP, .slice AE 1 cE] 24 (0, 0)) ∧ W.heap[w6.heap.size]? = some (.cells #[.int .i64 0, .int .i64 0, .slice AP' 1 cP', .slice AE' 1 cE'] 24 (0, 0)) ∧
      Kd.C (Kd.int .i64) W (some ⟨w.heap.size, 0, none⟩) 4 [0, -1, 1, 2] ∧ Kd.C (Kd.int .i64) W AP 1 [0] ∧ Kd.C (Kd.int .i64) W AE 1 [-1] ∧ Kd.C (Kd.int .i64) W AL 4 [0, -1, 1, 2] ∧ Kd.C (Kd.int .i64) W AP' 1 [0] ∧ Kd.C (Kd.int .i64) W AE' 1 [-1] ∧ Below w.heap.size w W) := ⟨fun W hW => by
    have h67 : Below w6.heap.size w6 W := HB7.out.trans (hW.mono HB7.out.size)
    have h47 : Below w4.heap.size w4 W := HB6.out.trans (h67.mono HB6.out.size)
    have h27 : Below w2.heap.size w2 W := HB4.out.trans (h47.mono HB4.out.size)
    exact ⟨HW4.out.below h47, HR6.out.below h67, blk_below HX2.out h27, blk_below HX7.out hW, Kd.C_below HC2.out h27, Kd.C_below HP2.out h27, Kd.C_below HE2.out h27, Kd.C_below HL6.out h67, Kd.C_below HP6.out h67, Kd.C_below HE6.out h67, HB2.out.trans (h27.mono hsz)⟩⟩
  clear HB2 HX2 HC2 HP2 HE2 HB4 HW4 HB6 HL6 HP6 HE6 HR6 HX7 HB7 HSS HDEC
  generalize w2.heap.size = gw at *
  generalize w4.heap.size = gr at *
  generalize w6.heap.size = g7 at *
  obtain ⟨f1, f2, f3, f4, f5, f6, f7, f8, f9, f10, f11⟩ := HF.out w7 (Below.refl _ _)
  have c2 := blk_cell f3 2
  obtain ⟨adP, rfl, hxP⟩ := C_cell f6 0 (by decide)
  rw [Addr.add_zero'] at hxP
  have HLE := fun W hW => Len_any bx gw gw v4 W (HF.out W hW).1
  rw [HLEN.out] at HLE
  have HLE := Aside0.mk HLE
  have HIN : Aside0 (∀ W, Below w7.heap.size w7 W → Calls Try.prog 23 #[.slice AL 4 cL, .slice (some ⟨w.heap.size, 0, none⟩) 4 4] W fun e w' => e = .returned (.bool true) ∧ Drawn0 W w') := ⟨fun W hW => Ints_same [0, -1, 1, 2] (by decide) AL cL (some ⟨w.heap.size, 0, none⟩) 4 W (HF.out W hW).2.2.2.2.2.2.2.1 hcL4 (HF.out W hW).2.2.2.2.1 (by decide)⟩
  have HSA : Aside0 (∀ W, Below w7.heap.size w7 W → Calls Try.prog 24 #[.agg #[.int .i64 0, .int .i64 0, .slice (some adP) 1 cP, .slice AE 1 cE], .agg #[.int .i64 0, .int .i64 0, .slice AP' 1 cP', .slice AE' 1 cE']] W fun e w' => e = .returned (.bool true) ∧ Below W.heap.size W w') := ⟨fun W hW =>
    Same_same 0 0 [0] [-1] (by decide) (by decide) (some adP) AE AP' AE' cP cE cP' cE' W (HF.out W hW).2.2.2.2.2.1 hcP1 (HF.out W hW).2.2.2.2.2.2.1 hcE1 (HF.out W hW).2.2.2.2.2.2.2.2.1 hcP4 (HF.out W hW).2.2.2.2.2.2.2.2.2.1 hcE4⟩
  have HAT := Aside0.mk (fun W hW => At_any s 21 gr W (HF.out W hW).2.1)
  have HCO : Aside0 (∀ W (k : Int), Below w7.heap.size w7 W → Calls Try.prog 28 #[.slice (some ⟨w.heap.size, 0, none⟩) 4 4, .int .i64 k] W fun e w' => e = .returned (.int .i64 (costF [0, -1, 1, 2] k)) ∧ Drawn0 W w') := ⟨fun W k hW => Cost_any [0, -1, 1, 2] k (some ⟨w.heap.size, 0, none⟩) 4 W (by decide) span4 (HF.out W hW).2.2.2.2.1 (by decide)⟩
  clear f1 f2 f3 f4 f5 f6 f7 f8 f9 f10 f11
  go_wp2_with fail
  with_reducible refine (HLE.out _ (Below.refl _ _)).mono ?_
  rintro e w8 ⟨rfl, rfl⟩
  clear c2 hxP
  go_wp2_with fail
  with_reducible refine (HIN.out _ (Below.refl _ _)).mono ?_
  rintro e w8 ⟨rfl, hd8⟩
  have HB8 : Aside0 (Below w7.heap.size w7 w8) := ⟨hd8.below⟩
  clear hd8
  obtain ⟨f1, f2, f3, f4, f5, f6, f7, f8, f9, f10, f11⟩ := HF.out w8 HB8.out
  have c0 := blk_cell f3 0
  have c1 := blk_cell f3 1
  have c2 := blk_cell f3 2
  have c3 := blk_cell f3 3
  have d0 := blk_cell f4 0
  have d1 := blk_cell f4 1
  have d2 := blk_cell f4 2
  have d3 := blk_cell f4 3
  clear f1 f2 f3 f4 f5 f6 f7 f8 f9 f10 f11
  go_wp2_with fail
  with_reducible refine (HSA.out _ HB8.out).mono ?_
  rintro e w9 ⟨rfl, hb9⟩
  have HB9 : Aside0 (Below w7.heap.size w7 w9) := ⟨HB8.out.trans (hb9.mono HB8.out.size)⟩
  clear hb9 c0 c1 c2 c3 d0 d1 d2 d3
  go_wp2_with fail
  with_reducible refine (HAT.out _ HB9.out).mono ?_
  rintro e w10 ⟨rfl, hd10⟩
  have HB10 : Aside0 (Below w7.heap.size w7 w10) := ⟨HB9.out.trans (hd10.below.mono HB9.out.size)⟩
  clear hd10
  go_wp2_with fail
  with_reducible refine (HCO.out _ _ HB10.out).mono ?_
  rw [cost41]
  rintro e w11 ⟨rfl, hd11⟩
  have HB11 : Aside0 (Below w7.heap.size w7 w11) := ⟨HB10.out.trans (hd11.below.mono HB10.out.size)⟩
  clear hd11
  go_wp2_with fail
  with_reducible refine (HCO.out _ _ HB11.out).mono ?_
  rw [cost4n]
  rintro e w12 ⟨rfl, hd12⟩
  have HB12 : Aside0 (Below w7.heap.size w7 w12) := ⟨HB11.out.trans (hd12.below.mono HB11.out.size)⟩
  clear hd12
  go_wp2
  go_ret
  exact ⟨rfl, (HF.out _ HB12.out).2.2.2.2.2.2.2.2.2.2⟩
end Go.Proofs.Ytfhekkoibmlmpaa.Hand

/- Contracts of layer 8, proved by hand: the reference's Best, its words. -/
namespace Go.Proofs.Ytfhekkoibmlmpaa.Hand
open Go.RowKit Go.Proofs.Ytfhekkoibmlmpaa.Q Go.Proofs.YtfhekkoibmlmpaaW.PrintWords Go.Proofs.YtfhekkoibmlmpaaW.PrintLast Go.Proofs.YtfhekkoibmlmpaaW.PrintMore
set_option linter.unusedVariables false
set_option linter.unusedSimpArgs false

/-- A cut without a capacity of its own. -/
theorem run_cut2 {P : Program} {t e : TypeId} {i : TypeInfo} (ht : P.underlying t = some (.slice e)) (hi : P.info? e = some i) (hsz : i.size = 1) (A : Option Addr) (n c : Nat) (lo hi' : Nat) (h1 : lo ≤ hi') (h2 : hi' ≤ c) (W : World) :
    (Instr.slice t (.slice A n c) (some (.int .i64 lo)) (some (.int .i64 hi')) none).run P W = .ok (.slice (if c = lo then A else A.map (·.add lo)) (hi' - lo) (c - lo)) W := by
  have hel : P.elem t = e := by simp [Program.elem, ht]
  have hu : P.underlying t = some (.slice (P.elem t)) := by rw [hel]; exact ht
  rw [run_slice_any W t A n c hu]
  have e1 : (0 : Int) ≤ (lo : Int) := by omega
  have e2 : (lo : Int) ≤ (hi' : Int) := by omega
  have e3 : (hi' : Int) ≤ (c : Int) := by omega
  have e4 : lo ≤ c := by omega
  simp [Instr.sliceBounds, run_sliceBound, e1, e2, e3, e4, hel, sizeOf, typeInfo, hi, hsz, sliced, Result.andThen, h1, h2]
theorem slice_part (l : List Int) (A : Option Addr) (c f t : Nat) (hft : f ≤ t) (htl : t ≤ l.length) (hc : l.length ≤ c) :
    (∀ W : World, (Instr.slice 22 (.slice A l.length c) (some (.int .i64 f)) (some (.int .i64 t)) none).run Try.prog W = .ok (.slice (if c = f then A else A.map (·.add f)) (t - f) (c - f)) W) ∧
    (∀ W : World, Kd.C (Kd.int .i64) W A l.length l → Kd.C (Kd.int .i64) W (if c = f then A else A.map (·.add f)) ((l.take t).drop f).length ((l.take t).drop f)) ∧ ((l.take t).drop f).length = t - f := by
  have hlen : ((l.take t).drop f).length = t - f := by rw [List.length_drop, List.length_take]; omega
  have hlt : (l.take t).length = t := by rw [List.length_take]; omega
  obtain ⟨i0, hi0, hz⟩ : ∃ i0, Try.prog.info? 3 = some i0 ∧ i0.size = 1 := by
    obtain ⟨i0, h1, h2⟩ := Option.map_eq_some_iff.1 (show (Try.prog.info? 3).map (fun i => i.size) = some 1 by kernel_rfl)
    exact ⟨i0, h1, h2⟩
  refine ⟨fun W => run_cut2 Try.underlying22 hi0 hz A l.length c f t hft (by omega) W, fun W h => ?_, hlen⟩
  have h3 := Kd.C_drop (c := c) (m := f) (Kd.C_take h htl) (by omega) (by omega)
  simpa [Kd.int, Kd.scalar] using h3
/-- A recipe that grows, in a block of its own. -/
structure RTry (w0 : World) (b11 : Nat) (o : Int) (wr : World) (vP vE : Value) (ps es : List Int) : Prop where
  bel : Below w0.heap.size w0 wr
  r11 : wr.heap[b11]? = some (.cells #[.int .i64 0, .int .i64 o, vP, vE] 24 (0, 0))
  P : IntsAt wr w0.heap.size vP ps
  E : IntsAt wr w0.heap.size vE es
  d3 : Dis vP vE
theorem RTry.below {w0 : World} {b11 : Nat} {o : Int} {wr w' : World} {vP vE : Value} {ps es : List Int} (h : RTry w0 b11 o wr vP vE ps es) (hb : Below wr.heap.size wr w') : RTry w0 b11 o w' vP vE ps es :=
  ⟨h.bel.trans (hb.mono h.bel.size), blk_below h.r11 hb, h.P.below hb, h.E.below hb, h.d3⟩
theorem RTry.two {w0 : World} {b11 : Nat} {o o' : Int} {W0 W : World} {vP vE vP' vE' : Value} {ps es ps' es' : List Int} (h : RTry w0 b11 o W0 vP vE ps es)
    (ht : TwoRows w0.heap.size b11 24 W0 vP vE W #[.int .i64 0, .int .i64 o', vP', vE'] vP' vE' ps' es') : RTry w0 b11 o' W vP' vE' ps' es' :=
  ⟨h.bel.trans ht.below, ht.box, ht.P, ht.E, ht.dis⟩
theorem tryF_none {block order : Int} {l : List Int} {o : Int} (h : ¬ (shapeP 0 o block order ∧ (l.length : Int) = block - order)) : tryF block order l o = none := if_neg h
theorem tryL_step (l : List Int) (n order d i : Nat) (sum : Int) (ps es : List Int) : tryL l n order (d + 1) i sum ps es = if (leastF (partL l n order i)).2 < 0 then none else tryL l n order d (i + 1) (sum + (4 + (leastF (partL l n order i)).2)) (ps ++ [(leastF (partL l n order i)).1]) (es ++ [-1]) := rfl
theorem lstR_step (l : List Int) (d k : Nat) (b : Int × Int) : lstR l (d + 1) k b = lstR l d (k + 1) (if 0 ≤ costF l (k : Int) ∧ (b.2 < 0 ∨ costF l (k : Int) < b.2) then ((k : Int), costF l (k : Int)) else b) := rfl
end Go.Proofs.Ytfhekkoibmlmpaa.Hand

/- Contracts of layer 8, proved by hand: the reference's Best, whole. -/
namespace Go.Proofs.Ytfhekkoibmlmpaa.Hand
open Go.RowKit Go.Proofs.Ytfhekkoibmlmpaa.Q Go.Proofs.YtfhekkoibmlmpaaW.PrintWords Go.Proofs.YtfhekkoibmlmpaaW.PrintLast Go.Proofs.YtfhekkoibmlmpaaW.PrintMore
set_option linter.unusedVariables false
set_option linter.unusedSimpArgs false

set_option maxHeartbeats 16000000 in
set_option maxRecDepth 100000 in
theorem RBest_any (block order : Int) (l : List Int) (A : Option Addr) (c : Nat) (w : World) (hc : l.length ≤ c) (hA : Kd.C (Kd.int .i64) w A l.length l)
    (hin : ∀ x ∈ l, -9223372036854775808 ≤ x ∧ x ≤ 9223372036854775807) :
    Calls Try.prog 27 #[.int .i64 block, .int .i64 order, .slice A l.length c] w fun e w' => ∃ vP vE,
      e = .returned (.tuple #[.agg #[.int .i64 0, .int .i64 (bestF block order l).1, vP, vE], .int .i64 (bestF block order l).2.2.2]) ∧
      IntsAt w' w.heap.size vP (bestF block order l).2.1 ∧ IntsAt w' w.heap.size vE (bestF block order l).2.2.1 ∧ Below w.heap.size w w' := by
  have HCS : Aside0 (∀ (o : Int) W, Calls Try.prog 40 #[.agg #[.int .i64 0, .int .i64 o, .slice none 0 0, .slice none 0 0], .int .i64 block, .int .i64 order] W fun e w' => e = .returned (.bool (decide (shapeP 0 o block order))) ∧ Below W.heap.size W w') := ⟨fun o W =>
    lacquerref08_shape.calls 0 o none 0 [] none 0 [] block order _ W ⟨rfl, by decide, fun h => absurd h (Nat.lt_irrefl _)⟩ (Nat.le_refl _) ⟨rfl, by decide, fun h => absurd h (Nat.lt_irrefl _)⟩ (Nat.le_refl _) (xshape_eq 0 o [] [] block order)⟩
  obtain ⟨X, hX⟩ : ∃ X, bestF block order l = X := ⟨_, rfl⟩
  rw [hX]
  have HX := Aside0.mk hX
  have HA := Aside0.mk hA
  have HIN := Aside0.mk hin
  clear hX hA hin
  have hb1 : Below w.heap.size w ((w.alloc (.cells zRice 24 (0, 0))).alloc (.cells zRice 24 (0, 0))) := below_alloc (below_alloc (Below.refl _ _) _) _
  have hz : ((w.alloc (.cells zRice 24 (0, 0))).alloc (.cells zRice 24 (0, 0))).heap[w.heap.size]? = some (.cells zRice 24 (0, 0)) := blk_alloc (blk_new w _) _
  have hx : ((w.alloc (.cells zRice 24 (0, 0))).alloc (.cells zRice 24 (0, 0))).heap[w.heap.size + 1]? = some (.cells zRice 24 (0, 0)) := by simpa using blk_new (w.alloc (.cells zRice 24 (0, 0))) (.cells zRice 24 (0, 0))
  have hst0 : BestSt w w.heap.size (w.heap.size + 1) 0 (((w.alloc (.cells zRice 24 (0, 0))).alloc (.cells zRice 24 (0, 0))).setRow (w.heap.size + 1) zRice) (.slice none 0 0) (.slice none 0 0) [] [] :=
    ⟨below_setRow hb1 (Nat.le_succ _) _, by rw [setRow_other _ _ _ _ (by omega)]; exact hz, setRow_heap _ _ _ _ _ _ hx, IntsAt.nil _ _, IntsAt.nil _ _⟩
  have HST := Aside0.mk hst0
  have HXX := Aside0.mk hx
  have h68 : w.heap.size ≠ w.heap.size + 1 := by omega
  have hC8 : w.heap.size ≤ w.heap.size + 1 := by omega
  clear hb1 hz hx hst0
  go_enter Try.func27, Try.ntmps27
  go_upto_region 2 with ((with_reducible refine wpList_store_row ?_ 24 (.tmp 8) (.tmp 20) ?_ (w.heap.size + 1) (zRice) ?_ ?_ 24 (zRice) (HXX.out) (rc_info _ _ _ _) ?_ (rc_one _ _ _ _ _ _ _ _) ?_); rfl; rfl; rfl; rfl; rfl)
  generalize ((w.alloc (.cells zRice 24 (0, 0))).alloc (.cells zRice 24 (0, 0))).setRow (w.heap.size + 1) zRice = w1 at *
  generalize w.heap.size + 1 = b8 at *
  clear HXX
  go_wp2
  go_loopw [9, 10] (fun sv iv wr => ∃ (i : Nat) (bo n : Int) (vP vE : Value) (ps es : List Int), i ≤ 5 ∧ iv = .int .i64 i ∧ sv = .int .i64 n ∧ Aside0 (BestSt w w.heap.size b8 bo wr vP vE ps es) ∧ Aside0 (bestL block order l (5 - i) i (bo, ps, es, n) = X)) (fun _ iv _ => 5 - (intOf iv).toNat)
  case atStart => exact ⟨0, 0, -1, .slice none 0 0, .slice none 0 0, [], [], by omega, rfl, rfl, HST, HX⟩
  case round =>
    clear HST HX
    obtain ⟨i, bo, n, vP, vE, ps, es, hi, rfl, rfl, HST, HX⟩ := hrel
    obtain ⟨w4, rfl⟩ : ∃ w4, w4 = wr := ⟨_, rfl⟩
    by_cases hlt : i < 5
    · have i1 : (i : Int) ≤ 4 := by omega
      obtain ⟨d, hd⟩ : ∃ d, 5 - i = d + 1 := ⟨5 - i - 1, by omega⟩
      have hd2 : 5 - (i + 1) = d := by omega
      have HD := Aside0.mk hd2
      have HX2 : Aside0 (bestL block order l d (i + 1) (betterF (bo, ps, es, n) (i : Int) (tryF block order l (i : Int))) = X) := ⟨by
        have := HX.out
        rw [hd] at this
        exact this⟩
      have hbN : Below w4.heap.size w4 ((w4.alloc (.cells zRice 24 (0, 0))).setRow w4.heap.size #[.int .i64 0, .int .i64 (i : Int), .slice none 0 0, .slice none 0 0]) := below_setRow (below_alloc (Below.refl w4.heap.size w4) (.cells zRice 24 (0, 0))) (Nat.le_refl _) _
      have HN := Aside0.mk (blk_new w4 (.cells zRice 24 (0, 0)))
      have HR5 : Aside0 (RTry w4 w4.heap.size i ((w4.alloc (.cells zRice 24 (0, 0))).setRow w4.heap.size #[.int .i64 0, .int .i64 (i : Int), .slice none 0 0, .slice none 0 0]) (.slice none 0 0) (.slice none 0 0) [] []) :=
        ⟨⟨hbN, setRow_heap _ _ _ _ _ _ HN.out, IntsAt.nil _ _, IntsAt.nil _ _, Dis.nil_left _⟩⟩
      clear HX hd hd2 hbN
      go_upto_region 6 with ((with_reducible refine wpList_store_row ?_ 24 (.tmp 11) (.tmp 26) ?_ (w4.heap.size) (#[.int .i64 0, .int .i64 (i : Int), .slice none 0 0, .slice none 0 0]) ?_ ?_ 24 (zRice) (HN.out) (rc_info _ _ _ _) ?_ (rc_one _ _ _ _ _ _ _ _) ?_); rfl; rfl; rfl; rfl; rfl)
      generalize (w4.alloc (.cells zRice 24 (0, 0))).setRow w4.heap.size #[.int .i64 0, .int .i64 (i : Int), .slice none 0 0, .slice none 0 0] = w5 at *
      clear HN
      obtain ⟨b11, hb11⟩ : ∃ b11, w4.heap.size = b11 := ⟨_, rfl⟩
      have HB11 := Aside0.mk hb11
      rw [hb11] at HR5 ⊢
      clear hb11
      have c0 := blk_cell HR5.out.r11 0
      have c1 := blk_cell HR5.out.r11 1
      have c2 := blk_cell HR5.out.r11 2
      have c3 := blk_cell HR5.out.r11 3
      have HSH := Aside0.mk (HCS.out (i : Int) w5)
      have h4 : decide (shapeP 0 (i : Int) block order) = false ∧ tryF block order l (i : Int) = none ∨ (decide (shapeP 0 (i : Int) block order) = true ∧ ((l.length : Int) != block - order) = true ∧ tryF block order l (i : Int) = none ∧ 1 ≤ block ∧ block ≤ 65535 ∧ 0 ≤ order ∧ order ≤ 32) ∨
          (decide (shapeP 0 (i : Int) block order) = true ∧ ((l.length : Int) != block - order) = false ∧ shapeP 0 (i : Int) block order ∧ (l.length : Int) = block - order) := by
        by_cases hs : shapeP 0 (i : Int) block order
        · by_cases hl : (l.length : Int) = block - order
          · exact .inr (.inr ⟨decide_eq_true hs, bne_eq_false_iff_eq.mpr hl, hs, hl⟩)
          · exact .inr (.inl ⟨decide_eq_true hs, bne_iff_ne.mpr hl, tryF_none (fun h => hl h.2), hs.2.2.2.1, hs.2.2.2.2.1, hs.2.2.2.2.2.1, hs.2.2.2.2.2.2.1⟩)
        · exact .inl ⟨decide_eq_false hs, tryF_none (fun h => hs h.1)⟩
      generalize hds : decide (shapeP 0 (i : Int) block order) = sb at HSH h4
      clear hds
      rcases h4 with ⟨rfl, hno⟩ | ⟨rfl, hne, hno, b0, b1, d0, d1⟩ | ⟨rfl, hne, hsh, hlen⟩
      · have HX3 : Aside0 (bestL block order l d (i + 1) (bo, ps, es, n) = X) := ⟨by have := HX2.out; rw [hno] at this; exact this⟩
        clear hno HX2
        go_wp2_with fail
        with_reducible refine HSH.out.mono ?_
        rintro e w6 ⟨rfl, hb6⟩
        have HST6 := Aside0.mk (HST.out.below (HR5.out.bel.trans (hb6.mono HR5.out.bel.size)))
        clear hb6 c0 c1 c2 c3 HSH HR5 HST
        go_wp2
        go_roundw
        case rel => exact ⟨i + 1, bo, n, vP, vE, ps, es, by omega, by go_num, rfl, HST6, ⟨by rw [HD.out]; exact HX3.out⟩⟩
        case measure => simp [intOf]; omega
      · have HX3 : Aside0 (bestL block order l d (i + 1) (bo, ps, es, n) = X) := ⟨by have := HX2.out; rw [hno] at this; exact this⟩
        clear hno HX2
        go_wp2_with fail
        with_reducible refine HSH.out.mono ?_
        rintro e w6 ⟨rfl, hb6⟩
        have HST6 := Aside0.mk (HST.out.below (HR5.out.bel.trans (hb6.mono HR5.out.bel.size)))
        clear hb6 c0 c1 c2 c3 HSH HR5 HST
        go_wp2
        go_roundw
        case rel => exact ⟨i + 1, bo, n, vP, vE, ps, es, by omega, by go_num, rfl, HST6, ⟨by rw [HD.out]; exact HX3.out⟩⟩
        case measure => simp [intOf]; omega
      · obtain ⟨O, Bk, Od, nn, hO, rfl, rfl, hO15, hB0, hB1, hOd, hdiv, hdn, hn, hm⟩ := shape_nat hsh
        have hOi : O = i := by omega
        subst hOi
        have hY : tryF Bk Od l (O : Int) = tryL l nn Od (2 ^ O) 0 6 [] [] := by
          have : tryF (Bk : Int) (Od : Int) l (O : Int) = tryL l ((Bk : Int) / 2 ^ ((O : Int)).toNat).toNat ((Od : Int)).toNat (2 ^ ((O : Int)).toNat) 0 6 [] [] := if_pos ⟨hsh, hlen⟩
          rw [this, hn, Int.toNat_natCast, Int.toNat_natCast]
        rw [hY] at HX2
        have hp0 := Nat.two_pow_pos O
        have hN16 : 2 ^ O ≤ 2 ^ 4 := Nat.pow_le_pow_right (by decide) (by omega)
        have e16 : (2 : Nat) ^ 4 = 16 := by decide
        have HPT : Aside0 (∀ (j : Nat) (W : World) (AP AE : Option Addr) (cP cE : Nat) (ps es : List Int), Kd.C (Kd.int .i64) W AP ps.length ps → ps.length ≤ cP → Kd.C (Kd.int .i64) W AE es.length es → es.length ≤ cE → j < 2 ^ O → Calls Try.prog 35 #[.agg #[.int .i64 0, .int .i64 O, .slice AP ps.length cP, .slice AE es.length cE], .int .i64 Bk, .int .i64 Od, .int .i64 j] W fun e w' => e = .returned (.tuple #[.int .i64 ((j * nn - Od : Nat) : Int), .int .i64 (((j + 1) * nn - Od : Nat) : Int)]) ∧ Below W.heap.size W w') :=
          ⟨fun j W AP AE cP cE ps es hP hcP hE hcE hi => lacquerref08_part.calls 0 O AP cP ps AE cE es Bk Od j _ _ W hP hcP hE hcE (xpart_eq 0 O Bk Od nn j ps es hO15 hB1 hOd hdiv hdn hi)⟩
        have hlB : l.length + Od = 2 ^ O * nn := by omega
        have hl6 : l.length ≤ 65535 := by omega
        have HLB := Aside0.mk hlB
        obtain ⟨N, hN⟩ : ∃ N, 2 ^ O = N := ⟨_, rfl⟩
        have HJ := Aside0.mk (shl1 O N hO15 hN)
        rw [hN] at HX2 HPT HLB hp0 hN16
        have hNB : N ≤ 16 := by omega
        clear hY hdiv hn hsh hlen hlB hN hN16 e16 hO
        obtain ⟨Y, hY⟩ : ∃ Y, tryL l nn Od N 0 6 [] [] = Y := ⟨_, rfl⟩
        rw [hY] at HX2
        have HY := Aside0.mk hY
        clear hY
        obtain ⟨oI, ho⟩ : ∃ oI : Int, (O : Int) = oI := ⟨_, rfl⟩
        have o0 : 0 ≤ oI := by omega
        have o4 : oI ≤ 4 := by omega
        have HOI := Aside0.mk ho
        rw [ho] at HSH HR5 HPT HJ HX2 c1 i1 ⊢
        clear ho
        go_wp2_with fail
        with_reducible refine HSH.out.mono ?_
        rintro e w6 ⟨rfl, hb6⟩
        have HR6 := Aside0.mk (HR5.out.below hb6)
        clear hb6 c0 c1 c2 c3 HSH HR5
        go_wp2
        go_loopw [12, 13] (fun sv jv wz => ∃ (j : Nat) (sum : Int) (vP' vE' : Value) (ps' es' : List Int), j ≤ N ∧ jv = .int .i64 j ∧ sv = .int .i64 sum ∧ 0 ≤ sum ∧ sum ≤ 6 + 1100000000004 * j ∧ Aside0 (ps'.length = j ∧ es'.length = j) ∧ Aside0 (RTry w4 b11 oI wz vP' vE' ps' es') ∧ Aside0 (tryL l nn Od (N - j) j sum ps' es' = Y)) (fun _ jv _ => N - (intOf jv).toNat)
        case atStart => exact ⟨0, 6, .slice none 0 0, .slice none 0 0, [], [], Nat.zero_le _, rfl, rfl, by omega, by omega, ⟨rfl, rfl⟩, HR6, ⟨by rw [Nat.sub_zero]; exact HY.out⟩⟩
        case round =>
          clear HR6 HY
          obtain ⟨j, sum, vP', vE', ps', es', hj, rfl, rfl, hs0, hs1, HLN, HR, HY⟩ := hrel
          obtain ⟨wz, rfl⟩ : ∃ wz, wz = wr := ⟨_, rfl⟩
          by_cases hjN : j < N
          · have j0 : (0 : Int) ≤ (j : Int) := by omega
            have j1 : (j : Int) < (N : Int) := by omega
            obtain ⟨dd, hdd⟩ : ∃ dd, N - j = dd + 1 := ⟨N - j - 1, by omega⟩
            have hdd2 : N - (j + 1) = dd := by omega
            have HDD := Aside0.mk hdd2
            have HY2 : Aside0 ((if (leastF (partL l nn Od j)).2 < 0 then none else tryL l nn Od dd (j + 1) (sum + (4 + (leastF (partL l nn Od j)).2)) (ps' ++ [(leastF (partL l nn Od j)).1]) (es' ++ [-1])) = Y) := ⟨by
              have := HY.out
              rw [hdd, tryL_step] at this
              exact this⟩
            have hmul : (j + 1) * nn = j * nn + nn := Nat.succ_mul j nn
            have hle : (j + 1) * nn ≤ N * nn := Nat.mul_le_mul_right nn (by omega)
            obtain ⟨AP, cP, rfl, hcP, hCP⟩ := HR.out.P.C
            obtain ⟨AE, cE, rfl, hcE, hCE⟩ := HR.out.E.C
            have HPI := Aside0.mk (HPT.out j wz AP AE cP cE ps' es' hCP hcP hCE hcE hjN)
            obtain ⟨f, hf⟩ : ∃ f, j * nn - Od = f := ⟨_, rfl⟩
            obtain ⟨t, ht⟩ : ∃ t, (j + 1) * nn - Od = t := ⟨_, rfl⟩
            have hft : f ≤ t := by omega
            have htl : t ≤ l.length := by have := HLB.out; omega
            rw [hf, ht] at HPI
            obtain ⟨hcut, hcutC, hplen⟩ := slice_part l A c f t hft htl hc
            have hpl : partL l nn Od j = (l.take t).drop f := by unfold partL; rw [hf, ht]
            rw [hpl] at HY2
            have HPI9 : Aside0 (∀ x ∈ (l.take t).drop f, -9223372036854775808 ≤ x ∧ x ≤ 9223372036854775807) := ⟨fun x hx => HIN.out x (List.mem_of_mem_take (List.mem_of_mem_drop hx))⟩
            have hplc : ((l.take t).drop f).length ≤ c - f := by omega
            have hpl6 : ((l.take t).drop f).length ≤ 65535 := by omega
            rw [hplen] at hcutC
            generalize hA2 : (if c = f then A else A.map (·.add f)) = A2 at hcut hcutC
            generalize hpp : (l.take t).drop f = pl at HY2 HPI9 hcutC hplen hplc hpl6
            generalize hq : t - f = q at hcut hcutC hplen
            generalize hcf : c - f = cf at hcut hplc
            have tI : (f : Int) ≤ (t : Int) := by omega
            have tc : (t : Int) ≤ (c : Int) := by omega
            have c0 := blk_cell HR.out.r11 0
            have c1 := blk_cell HR.out.r11 1
            have c2 := blk_cell HR.out.r11 2
            have c3 := blk_cell HR.out.r11 3
            have HPLQ := Aside0.mk hplen
            have HCUT := Aside0.mk hcut
            have HCUTC : Aside0 (∀ W, Below w.heap.size w W → Kd.C (Kd.int .i64) W A2 pl.length pl) := ⟨fun W hW => by rw [HPLQ.out]; exact hcutC W (Kd.C_below HA.out hW)⟩
            have HCOST : Aside0 (∀ (W : World) (x : Int), Below w.heap.size w W → Calls Try.prog 29 #[.slice A2 q cf, .int .i64 x] W fun e w' => e = .returned (.int .i64 (costF pl x)) ∧ Drawn0 W w') := ⟨fun W x hW => by
              obtain ⟨kk, hk⟩ := (xcost_ev pl x hpl6 HPI9.out).rounds
              have := lacquerref08_Cost.calls kk A2 cf pl x _ W (HCUTC.out W hW) hplc hk
              rw [HPLQ.out] at this
              exact this⟩
            have HLR := Aside0.mk (least_range pl hpl6)
            have HCR : Aside0 (∀ x, -1 ≤ costF pl x ∧ costF pl x ≤ 1100000000000) := ⟨fun x => cost_range pl x hpl6⟩
            have HBW : Aside0 (∀ W, Below w4.heap.size w4 W → Below w.heap.size w W) := ⟨fun W hW => HST.out.bel.trans (hW.mono HST.out.bel.size)⟩
            clear HY hdd hdd2 hmul hle hCP hCE hcP hcE hf ht hcut hcutC hplen hpl hA2 hpp hq hcf HPI9 hplc hpl6
            obtain ⟨j9, j0', j1', j2, j3, j4, ju⟩ := HJ.out
            go_wp2_with fail
            clear j9 j0' j1' j2 j3 j4 ju
            with_reducible refine HPI.out.mono ?_
            rintro e w7 ⟨rfl, hb7⟩
            have HR7 := Aside0.mk (HR.out.below hb7)
            clear hb7 HPI HR c0 c1 c2 c3
            obtain ⟨F, hF⟩ : ∃ F, leastF pl = F := ⟨_, rfl⟩
            rw [hF] at HY2 HLR
            have HF : Aside0 (lstR pl 15 0 (0, -1) = F) := ⟨hF⟩
            clear hF
            go_wp2
            go_loopw [16, 17, 18] (fun bv kv xv wy => ∃ (x : Nat) (bk bb : Int), x ≤ 15 ∧ xv = .int .i64 x ∧ bv = .int .i64 bb ∧ kv = .int .i64 bk ∧ Aside0 (RTry w4 b11 oI wy (.slice AP ps'.length cP) (.slice AE es'.length cE) ps' es') ∧ Aside0 (lstR pl (15 - x) x (bk, bb) = F)) (fun _ _ xv _ => 15 - (intOf xv).toNat)
            case atStart => exact ⟨0, 0, -1, by omega, rfl, rfl, rfl, HR7, HF⟩
            case round =>
              clear HR7 HF
              obtain ⟨x, bk, bb, hx, rfl, rfl, rfl, HR, HF⟩ := hrel
              obtain ⟨wy, rfl⟩ : ∃ wy, wy = wr := ⟨_, rfl⟩
              by_cases hx15 : x < 15
              · have x0 : (0 : Int) ≤ (x : Int) := by omega
                have x1 : (x : Int) ≤ 14 := by omega
                obtain ⟨ee, hee⟩ : ∃ ee, 15 - x = ee + 1 := ⟨15 - x - 1, by omega⟩
                have hee2 : 15 - (x + 1) = ee := by omega
                have HEE := Aside0.mk hee2
                have HF2 : Aside0 (lstR pl ee (x + 1) (if 0 ≤ costF pl (x : Int) ∧ (bb < 0 ∨ costF pl (x : Int) < bb) then ((x : Int), costF pl (x : Int)) else (bk, bb)) = F) := ⟨by
                  have := HF.out
                  rw [hee, lstR_step] at this
                  exact this⟩
                have HCC := Aside0.mk (HCOST.out wy (x : Int) (HBW.out wy HR.out.bel))
                have hcr := HCR.out (x : Int)
                have hcut := HCUT.out
                clear HF hee hee2
                generalize costF pl (x : Int) = cc at HF2 HCC hcr
                go_wp2_with fail
                clear hcut
                with_reducible refine HCC.out.mono ?_
                rintro e w8 ⟨rfl, hd8⟩
                have HR8 := Aside0.mk (HR.out.below (hd8.below))
                clear hd8 HCC HR
                by_cases g0 : 0 ≤ cc
                · by_cases g1 : bb < 0
                  · have HF3 : Aside0 (lstR pl ee (x + 1) ((x : Int), cc) = F) := ⟨by have := HF2.out; rwa [if_pos ⟨g0, .inl g1⟩] at this⟩
                    clear HF2
                    go_wp2
                    go_roundw
                    case rel => exact ⟨x + 1, (x : Int), cc, by omega, by go_num, rfl, rfl, HR8, ⟨by rw [HEE.out]; exact HF3.out⟩⟩
                    case measure => simp [intOf]; omega
                  · by_cases g2 : cc < bb
                    · have HF3 : Aside0 (lstR pl ee (x + 1) ((x : Int), cc) = F) := ⟨by have := HF2.out; rwa [if_pos ⟨g0, .inr g2⟩] at this⟩
                      clear HF2
                      go_wp2
                      go_roundw
                      case rel => exact ⟨x + 1, (x : Int), cc, by omega, by go_num, rfl, rfl, HR8, ⟨by rw [HEE.out]; exact HF3.out⟩⟩
                      case measure => simp [intOf]; omega
                    · have HF3 : Aside0 (lstR pl ee (x + 1) (bk, bb) = F) := ⟨by have := HF2.out; rwa [if_neg (by omega)] at this⟩
                      clear HF2
                      go_wp2
                      go_roundw
                      case rel => exact ⟨x + 1, bk, bb, by omega, by go_num, rfl, rfl, HR8, ⟨by rw [HEE.out]; exact HF3.out⟩⟩
                      case measure => simp [intOf]; omega
                · have g0' : cc < 0 := by omega
                  have HF3 : Aside0 (lstR pl ee (x + 1) (bk, bb) = F) := ⟨by have := HF2.out; rwa [if_neg (by omega)] at this⟩
                  clear HF2
                  go_wp2
                  go_roundw
                  case rel => exact ⟨x + 1, bk, bb, by omega, by go_num, rfl, rfl, HR8, ⟨by rw [HEE.out]; exact HF3.out⟩⟩
                  case measure => simp [intOf]; omega
              · obtain rfl : x = 15 := by omega
                have hF : ((bk, bb) : Int × Int) = F := HF.out
                subst hF
                have hlr := HLR.out
                simp only at hlr HY2
                clear HF
                by_cases hbb : bb < 0
                · have HYN : Aside0 (Y = none) := ⟨by have := HY2.out; rw [if_pos hbb] at this; exact this.symm⟩
                  have HX3 : Aside0 (bestL Bk Od l d (O + 1) (bo, ps, es, n) = X) := ⟨by have := HX2.out; rw [HYN.out] at this; exact this⟩
                  have HST6 := Aside0.mk (HST.out.below HR.out.bel)
                  clear HY2 HX2 HYN HR HST
                  go_wp2
                  go_roundw
                  case rel => exact ⟨O + 1, bo, n, vP, vE, ps, es, by omega, by have := HOI.out; go_num, rfl, HST6, ⟨by rw [HD.out]; exact HX3.out⟩⟩
                  case measure => have := HOI.out; simp [intOf]; omega
                · have HY3 : Aside0 (tryL l nn Od dd (j + 1) (sum + (4 + bb)) (ps' ++ [bk]) (es' ++ [-1]) = Y) := ⟨by have := HY2.out; rwa [if_neg hbb] at this⟩
                  clear HY2
                  have hbb0 : 0 ≤ bb := by omega
                  have hst8 := HR.out.below (below_drew (Below.refl wy.heap.size wy))
                  have HSTd := Aside0.mk hst8
                  have hst := TwoRows.start hst8.r11 (by decide) hst8.P hst8.E hst8.d3 (by rw [HB11.out]; exact Nat.le_refl _)
                  have hpl : ps'.length ≤ 65536 := by have := HLN.out.1; omega
                  have hel : es'.length ≤ 65536 := by have := HLN.out.2; omega
                  clear hst8 HR
                  go_wp2
                  refine start_ (n := 13) (S := fun w' => w'.cell? ⟨b11, 2, none⟩ = some ((Value.slice AP ps'.length cP)) ∧ w'.cell? ⟨b11, 3, none⟩ = some ((Value.slice AE es'.length cE))) (ds := [10, 12]) #[false, false, false, false, false, false, false, false, false, false, false, false, false] (by kernel_rfl) rfl rfl ⟨blk_cell hst.box 2, blk_cell hst.box 3⟩ (fun hHeld => ?_)
                  refine pure_ (i := 0) (N := some 88) (v := ?_) (a' := ?_) #[true, false, false, false, false, false, false, false, false, false, false, false, false] rfl rfl (by kernel_rfl) (fun _ _ _ h => h) (Or.inl ⟨by rfl, ?_⟩) ?_ ?_
                  rotate_left
                  · intro w'
                    go_simp
                    with_reducible rfl
                  rotate_left
                  · simp only [Act.put, List.setIfInBounds_toArray, List.set_cons_zero, List.set_cons_succ, i64_w, i32_w]
                    rfl
                  refine pure_ (i := 2) (N := some 90) (v := ?_) (a' := ?_) #[true, false, true, false, false, false, false, false, false, false, false, false, false] rfl rfl (by kernel_rfl) (fun _ _ _ h => h) (Or.inl ⟨by rfl, ?_⟩) ?_ ?_
                  rotate_left
                  · intro w'
                    go_simp
                    with_reducible rfl
                  rotate_left
                  · simp only [Act.put, List.setIfInBounds_toArray, List.set_cons_zero, List.set_cons_succ, i64_w, i32_w]
                    rfl
                  refine pure_ (i := 5) (N := some 93) (v := ?_) (a' := ?_) #[true, false, true, false, false, true, false, false, false, false, false, false, false] rfl rfl (by kernel_rfl) (fun _ _ _ h => h) (Or.inl ⟨by rfl, ?_⟩) ?_ ?_
                  rotate_left
                  · intro w'
                    go_simp
                    with_reducible rfl
                  rotate_left
                  · simp only [Act.put, List.setIfInBounds_toArray, List.set_cons_zero, List.set_cons_succ, i64_w, i32_w]
                    rfl
                  refine take_ (i := 1) (N := some 89) (v := ?_) (a' := ?_) #[true, true, true, false, false, true, false, false, false, false, false, false, false] rfl rfl (by kernel_rfl) (fun _ _ _ h => h) (Or.inl ⟨by rfl, ?_⟩) hHeld ?_ ?_
                  rotate_left
                  · rintro w' ⟨s0, s1⟩
                    go_simp
                    with_reducible rfl
                  rotate_left
                  · simp only [Act.put, List.setIfInBounds_toArray, List.set_cons_zero, List.set_cons_succ, i64_w, i32_w]
                    rfl
                  refine take_ (i := 6) (N := some 94) (v := ?_) (a' := ?_) #[true, true, true, false, false, true, true, false, false, false, false, false, false] rfl rfl (by kernel_rfl) (fun _ _ _ h => h) (Or.inl ⟨by rfl, ?_⟩) hHeld ?_ ?_
                  rotate_left
                  · rintro w' ⟨s0, s1⟩
                    go_simp
                    with_reducible rfl
                  rotate_left
                  · simp only [Act.put, List.setIfInBounds_toArray, List.set_cons_zero, List.set_cons_succ, i64_w, i32_w]
                    rfl
                  refine join_ (σ := Nat × Value × Nat) 4 #[true, true, true, true, true, true, true, true, false, true, false, false, false] (fun s_ => [(91, .slice (some ⟨s_.1, 0, none⟩) 1 1), (92, s_.2.1), (95, .slice (some ⟨s_.2.2, 0, none⟩) 1 1), (97, .pointer (some ⟨b11, 2, none⟩))]) (fun s_ w' => (w'.cell? ⟨b11, 2, none⟩ = some ((Value.slice AP ps'.length cP)) ∧ w'.cell? ⟨b11, 3, none⟩ = some ((Value.slice AE es'.length cE))) ∧ TwoRows w4.heap.size b11 24 wy.drew ((Value.slice AP ps'.length cP)) ((Value.slice AE es'.length cE)) w' #[.int .i64 0, .int .i64 oI, (Value.slice AP ps'.length cP), (Value.slice AE es'.length cE)] s_.2.1 ((Value.slice AE es'.length cE)) (ps' ++ [bk]) (es') ∧ w'.heap[s_.2.2]? = some (.cells #[.int .i64 (-1)] 3 (0, 0))) ?_ ?_
                  rotate_left
                  · intro hCont
                    refine two_ (i := 3) (j := 7) (Ni := some 91) (Nj := some 95) #[true, true, true, true, false, true, true, false, false, false, false, false, false] #[true, true, true, false, false, true, true, true, false, false, false, false, false] rfl rfl rfl rfl (by kernel_rfl) (by decide) (by decide) (fun K hK => ?_) (fun K hK => ?_)
                    · skip
                      refine value_ (w1 := ?_) (v := ?_) (by rfl) rfl ?_ ?_
                      rotate_left 2
                      · go_simp
                        constructor
                        · rfl
                        · rfl
                      have hb1 : (wy.drew.alloc (.cells #[.int .i64 (bk)] 3 (0, 0))).heap[wy.heap.size]? = some (.cells #[.int .i64 (bk)] 3 (0, 0)) := by simpa using blk_new wy.drew (.cells #[.int .i64 (bk)] 3 (0, 0))
                      have hs9 := hst.new (below_alloc (Below.refl _ _) (.cells #[.int .i64 (bk)] 3 (0, 0)))
                      clear hst
                      have hst := hs9
                      clear hs9
                      refine hK.out _ _ ⟨blk_cell hst.box 2, blk_cell hst.box 3⟩ (fun hHeld => ?_)
                      clear hK K
                      refine norm_ (a' := ?_) ?_ ?_
                      rotate_left
                      · show Act.put _ (some 91) _ = _
                        simp only [Act.put, List.setIfInBounds_toArray, List.set_cons_zero, List.set_cons_succ, i64_w, i32_w]
                        rfl
                      refine two_ (i := 4) (j := 7) (Ni := some 92) (Nj := some 95) #[true, true, true, true, true, true, true, false, false, false, false, false, false] #[true, true, true, true, false, true, true, true, false, false, false, false, false] rfl rfl rfl rfl (by kernel_rfl) (by decide) (by decide) (fun K hK => ?_) (fun K hK => ?_)
                      · skip
                        refine app_lit_step (C := w4.heap.size) (.tmp 89) (.tmp 91) (v := (Value.slice AP ps'.length cP)) (xs := ps') (bk) ?_ ?_ ?_ ?_ hst.P hb1 hst.le (by omega) ?_
                        · rfl
                        · rfl
                        · rfl
                        · rfl
                        intro v1 w1 hr1 hg1 ho1
                        have hs9 := hst.growP hr1 hg1 ho1
                        clear hr1 hg1 ho1 hst hb1
                        have hst := hs9
                        clear hs9
                        refine hK.out _ _ ⟨blk_cell hst.box 2, blk_cell hst.box 3⟩ (fun hHeld => ?_)
                        clear hK K
                        refine norm_ (a' := ?_) ?_ ?_
                        rotate_left
                        · show Act.put _ (some 92) _ = _
                          simp only [Act.put, List.setIfInBounds_toArray, List.set_cons_zero, List.set_cons_succ, i64_w, i32_w]
                          rfl
                        refine pure_ (i := 9) (N := some 97) (v := ?_) (a' := ?_) #[true, true, true, true, true, true, true, false, false, true, false, false, false] rfl rfl (by kernel_rfl) (fun _ _ _ h => h) (Or.inl ⟨by rfl, ?_⟩) ?_ ?_
                        rotate_left
                        · intro w'
                          go_simp
                          with_reducible rfl
                        rotate_left
                        · simp only [Act.put, List.setIfInBounds_toArray, List.set_cons_zero, List.set_cons_succ, i64_w, i32_w]
                          rfl
                        refine one_ (i := 7) (N := some 95) #[true, true, true, true, true, true, true, true, false, true, false, false, false] rfl rfl (by kernel_rfl) (by decide) (fun K hK => ?_)
                        refine value_ (w1 := ?_) (v := ?_) (by rfl) rfl ?_ ?_
                        rotate_left 2
                        · go_simp
                          constructor
                          · rfl
                          · rfl
                        have hb2 : (w1.alloc (.cells #[.int .i64 (-1)] 3 (0, 0))).heap[w1.heap.size]? = some (.cells #[.int .i64 (-1)] 3 (0, 0)) := by simpa using blk_new w1 (.cells #[.int .i64 (-1)] 3 (0, 0))
                        have hs9 := hst.new (below_alloc (Below.refl _ _) (.cells #[.int .i64 (-1)] 3 (0, 0)))
                        clear hst
                        have hst := hs9
                        clear hs9
                        refine hK.out _ _ ⟨blk_cell hst.box 2, blk_cell hst.box 3⟩ (fun hHeld => ?_)
                        clear hK K
                        refine norm_ (a' := ?_) ?_ ?_
                        rotate_left
                        · show Act.put _ (some 95) _ = _
                          simp only [Act.put, List.setIfInBounds_toArray, List.set_cons_zero, List.set_cons_succ, i64_w, i32_w]
                          rfl
                        exact norm_ (by simp only [putAll, Act.put, List.setIfInBounds_toArray, List.set_cons_zero, List.set_cons_succ]) (hCont (⟨wy.heap.size, v1, w1.heap.size⟩ : Nat × Value × Nat) _ ⟨⟨blk_cell hst.box 2, blk_cell hst.box 3⟩, hst, hb2⟩)
                      · skip
                        refine value_ (w1 := ?_) (v := ?_) (by rfl) rfl ?_ ?_
                        rotate_left 2
                        · go_simp
                          constructor
                          · rfl
                          · rfl
                        have hb2 : ((wy.drew.alloc (.cells #[.int .i64 (bk)] 3 (0, 0))).alloc (.cells #[.int .i64 (-1)] 3 (0, 0))).heap[wy.heap.size + 1]? = some (.cells #[.int .i64 (-1)] 3 (0, 0)) := by simpa using blk_new (wy.drew.alloc (.cells #[.int .i64 (bk)] 3 (0, 0))) (.cells #[.int .i64 (-1)] 3 (0, 0))
                        have hd2 : ∀ j, ((Value.slice AP ps'.length cP)).ownBlock = some j → j ≠ wy.heap.size + 1 := fun j hj => Nat.ne_of_lt (by have h9 := hst.P.lt j hj; simp at h9; omega)
                        have hb1' : ((wy.drew.alloc (.cells #[.int .i64 (bk)] 3 (0, 0))).alloc (.cells #[.int .i64 (-1)] 3 (0, 0))).heap[_]? = some _ := blk_alloc hb1 (.cells #[.int .i64 (-1)] 3 (0, 0))
                        clear hb1
                        have hb1 := hb1'
                        clear hb1'
                        have hs9 := hst.new (below_alloc (Below.refl _ _) (.cells #[.int .i64 (-1)] 3 (0, 0)))
                        clear hst
                        have hst := hs9
                        clear hs9
                        refine hK.out _ _ ⟨blk_cell hst.box 2, blk_cell hst.box 3⟩ (fun hHeld => ?_)
                        clear hK K
                        refine norm_ (a' := ?_) ?_ ?_
                        rotate_left
                        · show Act.put _ (some 95) _ = _
                          simp only [Act.put, List.setIfInBounds_toArray, List.set_cons_zero, List.set_cons_succ, i64_w, i32_w]
                          rfl
                        refine one_ (i := 4) (N := some 92) #[true, true, true, true, true, true, true, true, false, false, false, false, false] rfl rfl (by kernel_rfl) (by decide) (fun K hK => ?_)
                        refine app_lit_step (C := w4.heap.size) (.tmp 89) (.tmp 91) (v := (Value.slice AP ps'.length cP)) (xs := ps') (bk) ?_ ?_ ?_ ?_ hst.P hb1 hst.le (by omega) ?_
                        · rfl
                        · rfl
                        · rfl
                        · rfl
                        intro v1 w1 hr1 hg1 ho1
                        have hb2' := lit_kept hb2 hd2 hg1
                        clear hb2 hd2
                        have hb2 := hb2'
                        clear hb2'
                        have hs9 := hst.growP hr1 hg1 ho1
                        clear hr1 hg1 ho1 hst hb1
                        have hst := hs9
                        clear hs9
                        refine hK.out _ _ ⟨blk_cell hst.box 2, blk_cell hst.box 3⟩ (fun hHeld => ?_)
                        clear hK K
                        refine norm_ (a' := ?_) ?_ ?_
                        rotate_left
                        · show Act.put _ (some 92) _ = _
                          simp only [Act.put, List.setIfInBounds_toArray, List.set_cons_zero, List.set_cons_succ, i64_w, i32_w]
                          rfl
                        refine pure_ (i := 9) (N := some 97) (v := ?_) (a' := ?_) #[true, true, true, true, true, true, true, true, false, true, false, false, false] rfl rfl (by kernel_rfl) (fun _ _ _ h => h) (Or.inl ⟨by rfl, ?_⟩) ?_ ?_
                        rotate_left
                        · intro w'
                          go_simp
                          with_reducible rfl
                        rotate_left
                        · simp only [Act.put, List.setIfInBounds_toArray, List.set_cons_zero, List.set_cons_succ, i64_w, i32_w]
                          rfl
                        exact norm_ (by simp only [putAll, Act.put, List.setIfInBounds_toArray, List.set_cons_zero, List.set_cons_succ]) (hCont (⟨wy.heap.size, v1, wy.heap.size + 1⟩ : Nat × Value × Nat) _ ⟨⟨blk_cell hst.box 2, blk_cell hst.box 3⟩, hst, hb2⟩)
                    · skip
                      refine value_ (w1 := ?_) (v := ?_) (by rfl) rfl ?_ ?_
                      rotate_left 2
                      · go_simp
                        constructor
                        · rfl
                        · rfl
                      have hb2 : (wy.drew.alloc (.cells #[.int .i64 (-1)] 3 (0, 0))).heap[wy.heap.size]? = some (.cells #[.int .i64 (-1)] 3 (0, 0)) := by simpa using blk_new wy.drew (.cells #[.int .i64 (-1)] 3 (0, 0))
                      have hd2 : ∀ j, ((Value.slice AP ps'.length cP)).ownBlock = some j → j ≠ wy.heap.size := fun j hj => Nat.ne_of_lt (by have h9 := hst.P.lt j hj; simp at h9; omega)
                      have hs9 := hst.new (below_alloc (Below.refl _ _) (.cells #[.int .i64 (-1)] 3 (0, 0)))
                      clear hst
                      have hst := hs9
                      clear hs9
                      refine hK.out _ _ ⟨blk_cell hst.box 2, blk_cell hst.box 3⟩ (fun hHeld => ?_)
                      clear hK K
                      refine norm_ (a' := ?_) ?_ ?_
                      rotate_left
                      · show Act.put _ (some 95) _ = _
                        simp only [Act.put, List.setIfInBounds_toArray, List.set_cons_zero, List.set_cons_succ, i64_w, i32_w]
                        rfl
                      refine one_ (i := 3) (N := some 91) #[true, true, true, true, false, true, true, true, false, false, false, false, false] rfl rfl (by kernel_rfl) (by decide) (fun K hK => ?_)
                      refine value_ (w1 := ?_) (v := ?_) (by rfl) rfl ?_ ?_
                      rotate_left 2
                      · go_simp
                        constructor
                        · rfl
                        · rfl
                      have hb1 : ((wy.drew.alloc (.cells #[.int .i64 (-1)] 3 (0, 0))).alloc (.cells #[.int .i64 (bk)] 3 (0, 0))).heap[wy.heap.size + 1]? = some (.cells #[.int .i64 (bk)] 3 (0, 0)) := by simpa using blk_new (wy.drew.alloc (.cells #[.int .i64 (-1)] 3 (0, 0))) (.cells #[.int .i64 (bk)] 3 (0, 0))
                      have hb2' : ((wy.drew.alloc (.cells #[.int .i64 (-1)] 3 (0, 0))).alloc (.cells #[.int .i64 (bk)] 3 (0, 0))).heap[_]? = some _ := blk_alloc hb2 (.cells #[.int .i64 (bk)] 3 (0, 0))
                      clear hb2
                      have hb2 := hb2'
                      clear hb2'
                      have hs9 := hst.new (below_alloc (Below.refl _ _) (.cells #[.int .i64 (bk)] 3 (0, 0)))
                      clear hst
                      have hst := hs9
                      clear hs9
                      refine hK.out _ _ ⟨blk_cell hst.box 2, blk_cell hst.box 3⟩ (fun hHeld => ?_)
                      clear hK K
                      refine norm_ (a' := ?_) ?_ ?_
                      rotate_left
                      · show Act.put _ (some 91) _ = _
                        simp only [Act.put, List.setIfInBounds_toArray, List.set_cons_zero, List.set_cons_succ, i64_w, i32_w]
                        rfl
                      refine one_ (i := 4) (N := some 92) #[true, true, true, true, true, true, true, true, false, false, false, false, false] rfl rfl (by kernel_rfl) (by decide) (fun K hK => ?_)
                      refine app_lit_step (C := w4.heap.size) (.tmp 89) (.tmp 91) (v := (Value.slice AP ps'.length cP)) (xs := ps') (bk) ?_ ?_ ?_ ?_ hst.P hb1 hst.le (by omega) ?_
                      · rfl
                      · rfl
                      · rfl
                      · rfl
                      intro v1 w1 hr1 hg1 ho1
                      have hb2' := lit_kept hb2 hd2 hg1
                      clear hb2 hd2
                      have hb2 := hb2'
                      clear hb2'
                      have hs9 := hst.growP hr1 hg1 ho1
                      clear hr1 hg1 ho1 hst hb1
                      have hst := hs9
                      clear hs9
                      refine hK.out _ _ ⟨blk_cell hst.box 2, blk_cell hst.box 3⟩ (fun hHeld => ?_)
                      clear hK K
                      refine norm_ (a' := ?_) ?_ ?_
                      rotate_left
                      · show Act.put _ (some 92) _ = _
                        simp only [Act.put, List.setIfInBounds_toArray, List.set_cons_zero, List.set_cons_succ, i64_w, i32_w]
                        rfl
                      refine pure_ (i := 9) (N := some 97) (v := ?_) (a' := ?_) #[true, true, true, true, true, true, true, true, false, true, false, false, false] rfl rfl (by kernel_rfl) (fun _ _ _ h => h) (Or.inl ⟨by rfl, ?_⟩) ?_ ?_
                      rotate_left
                      · intro w'
                        go_simp
                        with_reducible rfl
                      rotate_left
                      · simp only [Act.put, List.setIfInBounds_toArray, List.set_cons_zero, List.set_cons_succ, i64_w, i32_w]
                        rfl
                      exact norm_ (by simp only [putAll, Act.put, List.setIfInBounds_toArray, List.set_cons_zero, List.set_cons_succ]) (hCont (⟨wy.heap.size + 1, v1, wy.heap.size⟩ : Nat × Value × Nat) _ ⟨⟨blk_cell hst.box 2, blk_cell hst.box 3⟩, hst, hb2⟩)
                  rintro ⟨b1, v1, b2⟩ w5 ⟨hHeld, hst, hb2⟩
                  refine norm_ (a' := ?_) ?_ ?_
                  rotate_left
                  · simp only [putAll, Act.put, List.setIfInBounds_toArray, List.set_cons_zero, List.set_cons_succ]
                    rfl
                  refine one_ (i := 8) (N := some 96) #[true, true, true, true, true, true, true, true, true, true, false, false, false] rfl rfl (by kernel_rfl) (by decide) (fun K hK => ?_)
                  refine app_lit_step (C := w4.heap.size) (.tmp 94) (.tmp 95) (v := (Value.slice AE es'.length cE)) (xs := es') (-1) ?_ ?_ ?_ ?_ hst.E hb2 hst.le (by omega) ?_
                  · rfl
                  · rfl
                  · rfl
                  · rfl
                  intro v2 w6 hr2 hg2 ho2
                  have hs9 := hst.growE hr2 hg2 ho2
                  clear hr2 hg2 ho2 hst hb2
                  have hst := hs9
                  clear hs9
                  obtain ⟨A1_, n1_, c1_, e1_⟩ := hst.P.shape
                  subst e1_
                  obtain ⟨A2_, n2_, c2_, e2_⟩ := hst.E.shape
                  subst e2_
                  have cP_ := blk_cell hst.box 2
                  have cE_ := blk_cell hst.box 3
                  have fP_ := blk_frozen hst.box 2
                  have fE_ := blk_frozen hst.box 3
                  refine hK.out _ _ ⟨blk_cell hst.box 2, blk_cell hst.box 3⟩ (fun hHeld => ?_)
                  clear hK K
                  refine norm_ (a' := ?_) ?_ ?_
                  rotate_left
                  · show Act.put _ (some 96) _ = _
                    simp only [Act.put, List.setIfInBounds_toArray, List.set_cons_zero, List.set_cons_succ, i64_w, i32_w]
                    rfl
                  refine last_ (i := 10) (N := none) #[true, true, true, true, true, true, true, true, true, true, true, false, false] rfl rfl (by kernel_rfl) (by decide) (fun K hK => ?_)
                  refine skip_ (w1 := ?_) (by rfl) rfl ?_ ?_
                  rotate_left
                  · go_simp
                    rfl
                  refine hK.out _ _ ?_
                  clear hK K
                  refine pure_ (i := 11) (N := some 98) (v := ?_) (a' := ?_) #[true, true, true, true, true, true, true, true, true, true, true, true, false] rfl rfl (by kernel_rfl) (fun _ _ _ h => h) (Or.inl ⟨by rfl, ?_⟩) ?_ ?_
                  rotate_left
                  · intro w'
                    go_simp
                    with_reducible rfl
                  rotate_left
                  · simp only [Act.put, List.setIfInBounds_toArray, List.set_cons_zero, List.set_cons_succ, i64_w, i32_w]
                    rfl
                  refine last_ (i := 12) (N := none) #[true, true, true, true, true, true, true, true, true, true, true, true, true] rfl rfl (by kernel_rfl) (by decide) (fun K hK => ?_)
                  refine skip_ (w1 := ?_) (by rfl) rfl ?_ ?_
                  rotate_left
                  · go_simp
                    rfl
                  refine hK.out _ _ ?_
                  clear hK K
                  refine done_ (by kernel_rfl) ?_
                  have hs9 := (hst.put 2 (.slice A1_ n1_ c1_) (cells2 := #[.int .i64 0, .int .i64 oI, (.slice A1_ n1_ c1_), (Value.slice AE es'.length cE)]) rfl).put 3 (.slice A2_ n2_ c2_) (cells2 := #[.int .i64 0, .int .i64 oI, (.slice A1_ n1_ c1_), (.slice A2_ n2_ c2_)]) rfl
                  clear hst cP_ cE_ fP_ fE_
                  have hst := hs9
                  clear hs9
                  have hst9 := HSTd.out.two hst
                  have HST9 := Aside0.mk hst9
                  clear hst hst9 HSTd
                  go_wp2
                  go_roundw
                  case rel => exact ⟨j + 1, sum + (4 + bb), _, _, ps' ++ [bk], es' ++ [-1], by omega, by go_num, rfl, by omega, by omega, ⟨by rw [List.length_append, HLN.out.1]; rfl, by rw [List.length_append, HLN.out.2]; rfl⟩, HST9, ⟨by rw [HDD.out]; exact HY3.out⟩⟩
                  case measure => simp [intOf]; omega
          · obtain rfl : j = N := by omega
            have hYS : some (sum, ps', es') = Y := by have := HY.out; rw [Nat.sub_self] at this; exact this
            subst hYS
            have hst6 := HST.out.below HR.out.bel
            have HST6 := Aside0.mk hst6
            clear HY
            obtain ⟨j9, j0', j1', j2, j3, j4, ju⟩ := HJ.out
            obtain ⟨AP, nP, cP, eP⟩ := HR.out.P.shape
            subst eP
            obtain ⟨AE, nE, cE, eE⟩ := HR.out.E.shape
            subst eE
            have HP4 := Aside0.mk (HR.out.P.lower HST.out.bel.size)
            have HE4 := Aside0.mk (HR.out.E.lower HST.out.bel.size)
            have c0 := blk_cell HR.out.r11 0
            have c1 := blk_cell HR.out.r11 1
            have c2 := blk_cell HR.out.r11 2
            have c3 := blk_cell HR.out.r11 3
            have jj : ¬ (j : Int) < (j : Int) := Int.lt_irrefl _
            clear hst6 HR HST
            by_cases g1 : n < 0
            · have HX3 : Aside0 (bestL Bk Od l d (O + 1) (oI, ps', es', sum) = X) := ⟨by have := HX2.out; rwa [better_take (by omega)] at this⟩
              clear HX2
              have HST7 := Aside0.mk (HST6.out.put (o' := oI) h68 hC8 HP4.out HE4.out)
              have HR8 := Aside0.mk HST6.out.r8
              go_wp2_with ((with_reducible refine wpList_store_row ?_ 24 (.tmp 8) (.tmp 110) ?_ (b8) (#[.int .i64 0, .int .i64 oI, .slice AP nP cP, .slice AE nE cE]) ?_ ?_ 24 (#[.int .i64 0, .int .i64 bo, vP, vE]) (HR8.out) (rc_info _ _ _ _) ?_ (rc_one _ _ _ _ _ _ _ _) ?_); rfl; rfl; rfl; rfl; rfl)
              clear c0 c1 c2 c3 j9 j0' j1' j2 j3 j4 ju
              go_roundw
              case rel => exact ⟨O + 1, oI, sum, _, _, ps', es', by omega, by have := HOI.out; go_num, rfl, HST7, ⟨by rw [HD.out]; exact HX3.out⟩⟩
              case measure => have := HOI.out; simp [intOf]; omega
            · by_cases g2 : sum < n
              · have HX3 : Aside0 (bestL Bk Od l d (O + 1) (oI, ps', es', sum) = X) := ⟨by have := HX2.out; rwa [better_take (by omega)] at this⟩
                clear HX2
                have HST7 := Aside0.mk (HST6.out.put (o' := oI) h68 hC8 HP4.out HE4.out)
                have HR8 := Aside0.mk HST6.out.r8
                go_wp2_with ((with_reducible refine wpList_store_row ?_ 24 (.tmp 8) (.tmp 110) ?_ (b8) (#[.int .i64 0, .int .i64 oI, .slice AP nP cP, .slice AE nE cE]) ?_ ?_ 24 (#[.int .i64 0, .int .i64 bo, vP, vE]) (HR8.out) (rc_info _ _ _ _) ?_ (rc_one _ _ _ _ _ _ _ _) ?_); rfl; rfl; rfl; rfl; rfl)
                clear c0 c1 c2 c3 j9 j0' j1' j2 j3 j4 ju
                go_roundw
                case rel => exact ⟨O + 1, oI, sum, _, _, ps', es', by omega, by have := HOI.out; go_num, rfl, HST7, ⟨by rw [HD.out]; exact HX3.out⟩⟩
                case measure => have := HOI.out; simp [intOf]; omega
              · have HX3 : Aside0 (bestL Bk Od l d (O + 1) (bo, ps, es, n) = X) := ⟨by have := HX2.out; rwa [better_keep (by omega)] at this⟩
                clear HX2
                go_wp2
                clear c0 c1 c2 c3 j9 j0' j1' j2 j3 j4 ju
                go_roundw
                case rel => exact ⟨O + 1, bo, n, vP, vE, ps, es, by omega, by have := HOI.out; go_num, rfl, HST6, ⟨by rw [HD.out]; exact HX3.out⟩⟩
                case measure => have := HOI.out; simp [intOf]; omega
    · obtain rfl : i = 5 := by omega
      have HXS : Aside0 (X = (bo, ps, es, n)) := ⟨HX.out.symm⟩
      clear HX
      obtain ⟨AP, nP, cP, eP⟩ := HST.out.P.shape
      subst eP
      obtain ⟨AE, nE, cE, eE⟩ := HST.out.E.shape
      subst eE
      have c0 := blk_cell HST.out.r8 0
      have c1 := blk_cell HST.out.r8 1
      have c2 := blk_cell HST.out.r8 2
      have c3 := blk_cell HST.out.r8 3
      go_wp2_with ((with_reducible refine wpList_store_row ?_ 24 (.tmp 6) (.tmp 112) ?_ (w.heap.size) (#[.int .i64 0, .int .i64 bo, .slice AP nP cP, .slice AE nE cE]) ?_ ?_ 24 (zRice) (HST.out.z6) (rc_info _ _ _ _) ?_ (rc_one _ _ _ _ _ _ _ _) ?_); rfl; rfl; rfl; rfl; rfl)
      refine bodyPost_ret (results_ct rfl _ _ w.heap.size 24 #[.int .i64 0, .int .i64 bo, .slice AP nP cP, .slice AE nE cE] (0, 0) _ rfl (setRow_heap _ _ _ _ _ _ HST.out.z6) Try.underlying24 rfl (rc_info _ _ _ _)) rfl ?_
      rw [HXS.out]
      exact ⟨_, _, rfl, HST.out.P.setRow HST.out.z6 (by decide), HST.out.E.setRow HST.out.z6 (by decide), below_setRow HST.out.bel (Nat.le_refl _) _⟩
end Go.Proofs.Ytfhekkoibmlmpaa.Hand

/- Contracts of layer 8, proved by hand: RiceBest. -/
namespace Go.Proofs.Ytfhekkoibmlmpaa.Hand
open Go.RowKit Go.Proofs.Ytfhekkoibmlmpaa.Q Go.Proofs.YtfhekkoibmlmpaaW.PrintWords Go.Proofs.YtfhekkoibmlmpaaW.PrintLast Go.Proofs.YtfhekkoibmlmpaaW.PrintMore
set_option linter.unusedVariables false
set_option linter.unusedSimpArgs false

theorem C_len {w : World} {A : Option Addr} {xs : List Int} (h : Kd.C (Kd.int .i64) w A xs.length xs) : xs.length ≤ 9223372036854775807 := h.2.1
theorem XCost_any (l : List Int) (k : Int) (A : Option Addr) (c : Nat) (w : World) (hl : l.length ≤ 65535) (hin : ∀ x ∈ l, -9223372036854775808 ≤ x ∧ x ≤ 9223372036854775807) (hA : Kd.C (Kd.int .i64) w A l.length l) (hc : l.length ≤ c) :
    Calls Try.prog 29 #[.slice A l.length c, .int .i64 k] w fun e w' => e = .returned (.int .i64 (costF l k)) ∧ Drawn0 w w' := by
  obtain ⟨n, h⟩ := (xcost_ev l k hl hin).rounds
  exact lacquerref08_Cost.calls n A c l k _ w hA hc h
set_option maxHeartbeats 16000000 in
set_option maxRecDepth 100000 in
theorem BestLaw_any (n0 n1 : Int) (l : List Int) (A : Option Addr) (c : Nat) (k : Int) (w : World) (hA : Kd.C (Kd.int .i64) w A l.length l) (hc : l.length ≤ c) (hin : ∀ x ∈ l, -9223372036854775808 ≤ x ∧ x ≤ 9223372036854775807) :
    Calls Try.prog 6 #[.agg #[.int .i64 n0, .int .i64 n1], .slice A l.length c, .int .i64 k] w fun e w' => e = .returned (.bool true) ∧ Below w.heap.size w w' := by
  have hN := blk_new w (.cells #[.int .i64 n0, .int .i64 n1] 25 (0, 0))
  have hbN := below_alloc (Below.refl w.heap.size w) (.cells #[.int .i64 n0, .int .i64 n1] 25 (0, 0))
  have HSH : Aside0 (∀ W, Below w.heap.size w W → Calls Try.prog 8 #[.slice A l.length c] W fun e w' => e = .returned (.bool (decide (shortP l))) ∧ Drawn0 W w') := ⟨fun W hW => short_any l (C_len hA) A c W (Kd.C_below hA hW) hc⟩
  have HA := Aside0.mk hA
  have HIN := Aside0.mk hin
  have HB1 := Aside0.mk hbN
  have c0 : (w.alloc (.cells #[.int .i64 n0, .int .i64 n1] 25)).cell? ⟨w.heap.size, 0, none⟩ = some (.int .i64 n0) := blk_cell hN 0
  have c1 : (w.alloc (.cells #[.int .i64 n0, .int .i64 n1] 25)).cell? ⟨w.heap.size, 1, none⟩ = some (.int .i64 n1) := blk_cell hN 1
  clear hN hbN hA hin
  by_cases hs : shortP l
  · rw [decide_eq_true hs] at HSH
    have hl5 : l.length ≤ 5000 := hs.2
    clear hs
    go_enter Try.func6, Try.ntmps6
    go_wp2
    go_big_quiet (fail)
    have HB2 := Aside0.mk (pw_below_drewN HB1.out nq)
    clear c0 c1 HB1
    generalize (w.alloc (.cells #[.int .i64 n0, .int .i64 n1] 25)).drewN nq = w2 at HB2 ⊢
    go_wp2_with fail
    with_reducible refine (HSH.out _ HB2.out).mono ?_
    rintro e w3 ⟨rfl, hd3⟩
    have HBw3 : Aside0 (Below w.heap.size w w3) := ⟨HB2.out.trans (hd3.below.mono HB2.out.size)⟩
    clear hd3 HB2 HSH
    obtain ⟨X, hX⟩ : ∃ X, bestF n0 n1 l = X := ⟨_, rfl⟩
    have HX := Aside0.mk hX
    clear hX
    have HBE := Aside0.mk (Best_any n0 n1 l A c w3 hc (Kd.C_below HA.out HBw3.out) HIN.out)
    rw [HX.out] at HBE
    go_wp2_with fail
    with_reducible refine HBE.out.mono ?_
    rintro e w4 ⟨vP, vE, rfl, hP, hE, hb⟩
    obtain ⟨APp, cPp, rfl, hcPp, hCP⟩ := hP.C
    obtain ⟨AEp, cEp, rfl, hcEp, hCE⟩ := hE.C
    have HBw4 := Aside0.mk (HBw3.out.trans (hb.mono HBw3.out.size))
    have HN := Aside0.mk (blk_new w4 (.cells zRice 24 (0, 0)))
    have hbN := below_setRow (below_alloc (Below.refl w4.heap.size w4) (.cells zRice 24 (0, 0))) (Nat.le_refl _) #[.int .i64 0, .int .i64 X.1, .slice APp X.2.1.length cPp, .slice AEp X.2.2.1.length cEp]
    have HXp := Aside0.mk (setRow_heap _ _ _ #[.int .i64 0, .int .i64 X.1, .slice APp X.2.1.length cPp, .slice AEp X.2.2.1.length cEp] _ _ HN.out)
    have HPp := Aside0.mk (Kd.C_below hCP hbN)
    have HEp := Aside0.mk (Kd.C_below hCE hbN)
    have HBwsp := Aside0.mk (HBw4.out.trans (hbN.mono HBw4.out.size))
    clear hb hP hE hCP hCE hbN HBE
    go_upto_region 5 with ((with_reducible refine wpList_store_row ?_ 24 (.tmp 9) (.tmp 26) ?_ (w4.heap.size) (#[.int .i64 0, .int .i64 X.1, .slice APp X.2.1.length cPp, .slice AEp X.2.2.1.length cEp]) ?_ ?_ 24 (zRice) (HN.out) (rc_info _ _ _ _) ?_ (rc_one _ _ _ _ _ _ _ _) ?_); rfl; rfl; rfl; rfl; rfl)
    generalize (w4.alloc (.cells zRice 24 (0, 0))).setRow w4.heap.size #[.int .i64 0, .int .i64 X.1, .slice APp X.2.1.length cPp, .slice AEp X.2.2.1.length cEp] = wsp at *
    generalize w4.heap.size = gp at *
    clear HN
    have HBE := Aside0.mk (RBest_any n0 n1 l A c wsp hc (Kd.C_below HA.out HBwsp.out) HIN.out)
    rw [HX.out] at HBE
    go_wp2_with fail
    with_reducible refine HBE.out.mono ?_
    rintro e w5 ⟨vP, vE, rfl, hP, hE, hb⟩
    obtain ⟨APq, cPq, rfl, hcPq, hCP⟩ := hP.C
    obtain ⟨AEq, cEq, rfl, hcEq, hCE⟩ := hE.C
    have HBw5 := Aside0.mk (HBwsp.out.trans (hb.mono HBwsp.out.size))
    have HN := Aside0.mk (blk_new w5 (.cells zRice 24 (0, 0)))
    have hbN := below_setRow (below_alloc (Below.refl w5.heap.size w5) (.cells zRice 24 (0, 0))) (Nat.le_refl _) #[.int .i64 0, .int .i64 X.1, .slice APq X.2.1.length cPq, .slice AEq X.2.2.1.length cEq]
    have HXq := Aside0.mk (setRow_heap _ _ _ #[.int .i64 0, .int .i64 X.1, .slice APq X.2.1.length cPq, .slice AEq X.2.2.1.length cEq] _ _ HN.out)
    have HPq := Aside0.mk (Kd.C_below hCP hbN)
    have HEq := Aside0.mk (Kd.C_below hCE hbN)
    have HBwsq := Aside0.mk (HBw5.out.trans (hbN.mono HBw5.out.size))
    have HXp2 := Aside0.mk (blk_below HXp.out (hb.trans (hbN.mono hb.size)))
    have HPp2 := Aside0.mk (Kd.C_below HPp.out (hb.trans (hbN.mono hb.size)))
    have HEp2 := Aside0.mk (Kd.C_below HEp.out (hb.trans (hbN.mono hb.size)))
    clear hb hP hE hCP hCE hbN HBE
    go_upto_region 6 with ((with_reducible refine wpList_store_row ?_ 24 (.tmp 11) (.tmp 33) ?_ (w5.heap.size) (#[.int .i64 0, .int .i64 X.1, .slice APq X.2.1.length cPq, .slice AEq X.2.2.1.length cEq]) ?_ ?_ 24 (zRice) (HN.out) (rc_info _ _ _ _) ?_ (rc_one _ _ _ _ _ _ _ _) ?_); rfl; rfl; rfl; rfl; rfl)
    generalize (w5.alloc (.cells zRice 24 (0, 0))).setRow w5.heap.size #[.int .i64 0, .int .i64 X.1, .slice APq X.2.1.length cPq, .slice AEq X.2.2.1.length cEq] = wsq at *
    generalize w5.heap.size = gq at *
    clear HN
    clear HXp HPp HEp HBwsp HBw3 HBw4 HBw5
    have HSA := Aside0.mk (Same_same 0 X.1 X.2.1 X.2.2.1 (C_len HEp2.out) (C_len HPp2.out) APp AEp APq AEq cPp cEp cPq cEq wsq HPp2.out hcPp HEp2.out hcEp HPq.out hcPq HEq.out hcEq)
    have c0 := blk_cell HXp2.out 0
    have c1 := blk_cell HXp2.out 1
    have c2 := blk_cell HXp2.out 2
    have c3 := blk_cell HXp2.out 3
    have d0 := blk_cell HXq.out 0
    have d1 := blk_cell HXq.out 1
    have d2 := blk_cell HXq.out 2
    have d3 := blk_cell HXq.out 3
    go_wp2_with fail
    with_reducible refine HSA.out.mono ?_
    rintro e w6 ⟨rfl, hb6⟩
    have HB6 := Aside0.mk (HBwsq.out.trans (hb6.mono HBwsq.out.size))
    clear hb6 c0 c1 c2 c3 d0 d1 d2 d3 HSA
    have HC1 := Aside0.mk (Cost_any l k A c w6 (by omega) HIN.out (Kd.C_below HA.out HB6.out) hc)
    go_wp2_with fail
    with_reducible refine HC1.out.mono ?_
    rintro e w7 ⟨rfl, hd7⟩
    have HB7 : Aside0 (Below w.heap.size w w7) := ⟨HB6.out.trans (hd7.below.mono HB6.out.size)⟩
    clear hd7 HC1
    have HC2 := Aside0.mk (XCost_any l k A c w7 (by omega) HIN.out (Kd.C_below HA.out HB7.out) hc)
    go_wp2_with fail
    with_reducible refine HC2.out.mono ?_
    rintro e w8 ⟨rfl, hd8⟩
    have HB8 : Aside0 (Below w.heap.size w w8) := ⟨HB7.out.trans (hd8.below.mono HB7.out.size)⟩
    clear hd8 HC2
    generalize costF l k = cf
    go_wp2_with fail
    with_reducible refine (awake_any _).mono ?_
    rintro e w9 ⟨rfl, hb9⟩
    have HB9 := Aside0.mk (HB8.out.trans (hb9.mono HB8.out.size))
    clear hb9
    go_wp2
    go_ret
    exact ⟨rfl, HB9.out⟩
  · rw [decide_eq_false hs] at HSH
    clear hs
    go_enter Try.func6, Try.ntmps6
    go_wp2
    go_big_quiet (fail)
    have HB2 := Aside0.mk (pw_below_drewN HB1.out nq)
    clear c0 c1 HB1
    generalize (w.alloc (.cells #[.int .i64 n0, .int .i64 n1] 25)).drewN nq = w2 at HB2 ⊢
    go_wp2_with fail
    with_reducible refine (HSH.out _ HB2.out).mono ?_
    rintro e w3 ⟨rfl, hd3⟩
    have HB3 : Aside0 (Below w.heap.size w w3) := ⟨HB2.out.trans (hd3.below.mono HB2.out.size)⟩
    clear hd3 HB2 HSH
    go_wp2_with fail
    with_reducible refine (awake_any _).mono ?_
    rintro e w9 ⟨rfl, hb9⟩
    have HB9 := Aside0.mk (HB3.out.trans (hb9.mono HB3.out.size))
    clear hb9
    go_wp2
    go_ret
    exact ⟨rfl, HB9.out⟩
end Go.Proofs.Ytfhekkoibmlmpaa.Hand
