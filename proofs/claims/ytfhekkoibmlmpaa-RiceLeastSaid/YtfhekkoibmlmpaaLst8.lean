/- Texts of this claim's proof, laid behind each other by a program of ours, without what the proof does not reach: Contracts of layer 8, proved by hand: try, whatever comes; what the best recipe is; Contracts of layer 8, proved by hand: Best; Contracts of layer 8, proved by hand: what is the same is the same; short lists; Contracts of layer 1, proved by hand: the reference's writer; Contracts of layer 8, proved by hand: the reference's Encode; where it is refused ahead; its words; Contracts of layer 8, proved by hand: awake; Contracts of layer 8, proved by hand: the reference's Best, its words; Contracts of layer 8, proved by hand: RiceBest; Contracts of layer 8, proved by hand: RiceBack; Contracts of layer 8, proved by hand: RiceEncodes; The plain law of layer 8: the best recipe has as many bits as it says, and none that is plain has fewer; Contracts of layer 8, proved by hand: RiceLeast -/
import Derived.Laws.StructEq
import Derived.Laws.MakeOwn
import Derived.Test.YtfhekkoibmlmpaaLst1
import Derived.Test.YtfhekkoibmlmpaaLst2
import Derived.Test.YtfhekkoibmlmpaaLst3
import Derived.Test.YtfhekkoibmlmpaaLst4
import Derived.Test.YtfhekkoibmlmpaaLst5
import Derived.Test.YtfhekkoibmlmpaaLst6
import Derived.Test.YtfhekkoibmlmpaaLst7
import Derived.Test.YtfhekkoibmlmpaaLstWApart
import Derived.Test.YtfhekkoibmlmpaaLstWFoot
import Derived.Test.YtfhekkoibmlmpaaLstWGuard
import Derived.Test.YtfhekkoibmlmpaaLstWInv
import Derived.Test.YtfhekkoibmlmpaaLstWKept
import Derived.Test.YtfhekkoibmlmpaaLstWLast
import Derived.Test.YtfhekkoibmlmpaaLstWMore
import Derived.Test.YtfhekkoibmlmpaaLstWN
import Derived.Test.YtfhekkoibmlmpaaLstWRepsOne
import Derived.Test.YtfhekkoibmlmpaaLstWShare
import Derived.Test.YtfhekkoibmlmpaaLstWTab
import Derived.Test.YtfhekkoibmlmpaaLstWWords
/- Contracts of layer 8, proved by hand: try, whatever comes; what the best recipe is. -/
namespace Go.Proofs.Ytfhekkoibmlmpaa.Hand
open Go.RowKit Go.Proofs.Ytfhekkoibmlmpaa.Q Go.Proofs.YtfhekkoibmlmpaaW.PrintWords Go.Proofs.YtfhekkoibmlmpaaW.PrintLast Go.Proofs.YtfhekkoibmlmpaaW.PrintMore
set_option linter.unusedVariables false
set_option linter.unusedSimpArgs false

/-- The number of bits, the parameters, the escapes of the best recipe of one order; none: there is none. -/
def tryF (block order : Int) (l : List Int) (o : Int) : Option (Int × List Int × List Int) :=
  if shapeP 0 o block order ∧ (l.length : Int) = block - order then tryL l (block / 2 ^ o.toNat).toNat order.toNat (2 ^ o.toNat) 0 6 [] [] else none
theorem try_any (o block order : Int) (l : List Int) (A : Option Addr) (c : Nat) (w : World) (hc : l.length ≤ c) (hA : Kd.C (Kd.int .i64) w A l.length l)
    (hin : ∀ x ∈ l, -9223372036854775808 ≤ x ∧ x ≤ 9223372036854775807) :
    Calls Try.prog 46 #[.int .i64 o, .int .i64 block, .int .i64 order, .slice A l.length c] w (TryPost o (tryF block order l o) w.heap.size w) := by
  by_cases h : shapeP 0 o block order ∧ (l.length : Int) = block - order
  · have e : tryF block order l o = tryL l (block / 2 ^ o.toNat).toNat order.toNat (2 ^ o.toNat) 0 6 [] [] := if_pos h
    rw [e]
    obtain ⟨hsh, hlen⟩ := h
    obtain ⟨O, Bk, Od, n, rfl, rfl, rfl, hO15, hB0, hB1, hOd, hdiv, hdn, hn, hm⟩ := shape_nat hsh
    rw [hn, Int.toNat_natCast, Int.toNat_natCast]
    exact try_go O Bk Od n l A c w hsh hO15 hB1 hOd hdiv hdn (by omega) hc hA hin
  · have e : tryF block order l o = none := if_neg h
    rw [e]
    refine (try_no o block order l A c w ?_).mono fun e w' ⟨h1, h2⟩ => .inl ⟨rfl, h1, h2⟩
    by_cases hs : shapeP 0 o block order
    · exact .inr ⟨hs, fun hl => h ⟨hs, hl⟩⟩
    · exact .inl hs
/-- A recipe with its bits: the order, the parameters, the escapes, how many bits (-1: none). -/
def betterF (b : Int × List Int × List Int × Int) (o : Int) : Option (Int × List Int × List Int) → Int × List Int × List Int × Int
  | none => b
  | some (n, ps, es) => if 0 ≤ n ∧ (b.2.2.2 < 0 ∨ n < b.2.2.2) then (o, ps, es, n) else b
def bestL (block order : Int) (l : List Int) : Nat → Nat → Int × List Int × List Int × Int → Int × List Int × List Int × Int
  | 0, _, b => b
  | d + 1, o, b => bestL block order l d (o + 1) (betterF b (o : Int) (tryF block order l (o : Int)))
def bestF (block order : Int) (l : List Int) : Int × List Int × List Int × Int := bestL block order l 5 0 (0, [], [], -1)
end Go.Proofs.Ytfhekkoibmlmpaa.Hand

/- Contracts of layer 8, proved by hand: Best. -/
namespace Go.Proofs.Ytfhekkoibmlmpaa.Hand
open Go.RowKit Go.Proofs.Ytfhekkoibmlmpaa.Q Go.Proofs.YtfhekkoibmlmpaaW.PrintWords Go.Proofs.YtfhekkoibmlmpaaW.PrintLast Go.Proofs.YtfhekkoibmlmpaaW.PrintMore
set_option linter.unusedVariables false
set_option linter.unusedSimpArgs false

structure BestSt (w : World) (b6 b8 : Nat) (o : Int) (wr : World) (vP vE : Value) (ps es : List Int) : Prop where
  bel : Below w.heap.size w wr
  z6 : wr.heap[b6]? = some (.cells zRice 24 (0, 0))
  r8 : wr.heap[b8]? = some (.cells #[.int .i64 0, .int .i64 o, vP, vE] 24 (0, 0))
  P : IntsAt wr w.heap.size vP ps
  E : IntsAt wr w.heap.size vE es
theorem BestSt.below {w : World} {b6 b8 : Nat} {o : Int} {wr w' : World} {vP vE : Value} {ps es : List Int} (h : BestSt w b6 b8 o wr vP vE ps es) (hb : Below wr.heap.size wr w') : BestSt w b6 b8 o w' vP vE ps es :=
  ⟨h.bel.trans (hb.mono h.bel.size), blk_below h.z6 hb, blk_below h.r8 hb, h.P.below hb, h.E.below hb⟩
theorem BestSt.put {w : World} {b6 b8 : Nat} {o o' : Int} {wr : World} {vP vE vP' vE' : Value} {ps es ps' es' : List Int} (h : BestSt w b6 b8 o wr vP vE ps es) (h68 : b6 ≠ b8) (h8 : w.heap.size ≤ b8) (hP : IntsAt wr w.heap.size vP' ps') (hE : IntsAt wr w.heap.size vE' es') :
    BestSt w b6 b8 o' (wr.setRow b8 #[.int .i64 0, .int .i64 o', vP', vE']) vP' vE' ps' es' :=
  ⟨below_setRow h.bel h8 _, by rw [setRow_other _ _ _ _ h68]; exact h.z6, setRow_heap _ _ _ _ _ _ h.r8, hP.setRow h.r8 (by decide), hE.setRow h.r8 (by decide)⟩
theorem better_take {bo o n sum : Int} {ps es ps' es' : List Int} (h : 0 ≤ sum ∧ (n < 0 ∨ sum < n)) : betterF (bo, ps, es, n) o (some (sum, ps', es')) = (o, ps', es', sum) := if_pos h
theorem better_keep {bo o n sum : Int} {ps es ps' es' : List Int} (h : ¬ (0 ≤ sum ∧ (n < 0 ∨ sum < n))) : betterF (bo, ps, es, n) o (some (sum, ps', es')) = (bo, ps, es, n) := if_neg h
set_option maxHeartbeats 16000000 in
set_option maxRecDepth 100000 in
theorem Best_any (block order : Int) (l : List Int) (A : Option Addr) (c : Nat) (w : World) (hc : l.length ≤ c) (hA : Kd.C (Kd.int .i64) w A l.length l)
    (hin : ∀ x ∈ l, -9223372036854775808 ≤ x ∧ x ≤ 9223372036854775807) :
    Calls Try.prog 26 #[.int .i64 block, .int .i64 order, .slice A l.length c] w fun e w' => ∃ vP vE,
      e = .returned (.tuple #[.agg #[.int .i64 0, .int .i64 (bestF block order l).1, vP, vE], .int .i64 (bestF block order l).2.2.2]) ∧
      IntsAt w' w.heap.size vP (bestF block order l).2.1 ∧ IntsAt w' w.heap.size vE (bestF block order l).2.2.1 ∧ Below w.heap.size w w' := by
  have HTRY : Aside0 (∀ (i : Nat) (W : World), Below w.heap.size w W → Calls Try.prog 46 #[.int .i64 i, .int .i64 block, .int .i64 order, .slice A l.length c] W (TryPost i (tryF block order l i) W.heap.size W)) := ⟨fun i W hW =>
    try_any i block order l A c W hc (Kd.C_below hA hW) hin⟩
  obtain ⟨X, hX⟩ : ∃ X, bestF block order l = X := ⟨_, rfl⟩
  rw [hX]
  have HX := Aside0.mk hX
  clear hX hA hin hc
  have hb1 : Below w.heap.size w ((w.alloc (.cells zRice 24 (0, 0))).alloc (.cells zRice 24 (0, 0))) := below_alloc (below_alloc (Below.refl _ _) _) _
  have hz : ((w.alloc (.cells zRice 24 (0, 0))).alloc (.cells zRice 24 (0, 0))).heap[w.heap.size]? = some (.cells zRice 24 (0, 0)) := blk_alloc (blk_new w _) _
  have hx : ((w.alloc (.cells zRice 24 (0, 0))).alloc (.cells zRice 24 (0, 0))).heap[w.heap.size + 1]? = some (.cells zRice 24 (0, 0)) := by simpa using blk_new (w.alloc (.cells zRice 24 (0, 0))) (.cells zRice 24 (0, 0))
  have hst0 : BestSt w w.heap.size (w.heap.size + 1) 0 (((w.alloc (.cells zRice 24 (0, 0))).alloc (.cells zRice 24 (0, 0))).setRow (w.heap.size + 1) zRice) (.slice none 0 0) (.slice none 0 0) [] [] :=
    ⟨below_setRow hb1 (Nat.le_succ _) _, by rw [setRow_other _ _ _ _ (by omega)]; exact hz, setRow_heap _ _ _ _ _ _ hx, IntsAt.nil _ _, IntsAt.nil _ _⟩
  have HST := Aside0.mk hst0
  have HXX := Aside0.mk hx
  have h68 : w.heap.size ≠ w.heap.size + 1 := by omega
  have hC8 : w.heap.size ≤ w.heap.size + 1 := by omega
  clear hb1 hz hx hst0
  go_enter Try.func26, Try.ntmps26
  go_upto_region 2 with ((with_reducible refine wpList_store_row ?_ 24 (.tmp 8) (.tmp 13) ?_ (w.heap.size + 1) zRice ?_ ?_ 24 zRice HXX.out (rc_info _ _ _ _) ?_ (rc_one _ _ _ _ _ _ _ _) ?_); rfl; rfl; rfl; rfl; rfl)
  generalize ((w.alloc (.cells zRice 24 (0, 0))).alloc (.cells zRice 24 (0, 0))).setRow (w.heap.size + 1) zRice = w1 at *
  generalize w.heap.size + 1 = b8 at *
  clear HXX
  go_wp2
  go_loopw [9, 14] (fun sv iv wr => ∃ (i : Nat) (bo n : Int) (vP vE : Value) (ps es : List Int), i ≤ 5 ∧ iv = .int .i64 i ∧ sv = .int .i64 n ∧ Aside0 (BestSt w w.heap.size b8 bo wr vP vE ps es) ∧ Aside0 (bestL block order l (5 - i) i (bo, ps, es, n) = X)) (fun _ iv _ => 5 - (intOf iv).toNat)
  case atStart => exact ⟨0, 0, -1, .slice none 0 0, .slice none 0 0, [], [], by omega, rfl, rfl, HST, HX⟩
  case round =>
    clear HST HX
    obtain ⟨i, bo, n, vP, vE, ps, es, hi, rfl, rfl, HST, HX⟩ := hrel
    by_cases hlt : i < 5
    · have i1 : (i : Int) < 5 := by omega
      obtain ⟨d, hd⟩ : ∃ d, 5 - i = d + 1 := ⟨5 - i - 1, by omega⟩
      have hd2 : 5 - (i + 1) = d := by omega
      have HD := Aside0.mk hd2
      have HX2 : Aside0 (bestL block order l d (i + 1) (betterF (bo, ps, es, n) (i : Int) (tryF block order l (i : Int))) = X) := ⟨by
        have := HX.out
        rw [hd] at this
        exact this⟩
      have HT := Aside0.mk (HTRY.out i wr HST.out.bel)
      clear HX hd hd2
      generalize tryF block order l (i : Int) = Y at HT HX2
      go_wp2_with fail
      with_reducible refine HT.out.mono ?_
      rintro e w4 hpost
      clear HT
      rcases hpost with ⟨rfl, rfl, hb4⟩ | ⟨sum, ps', es', vP', vE', rfl, rfl, hP', hE', hb4⟩
      · have HST4 := Aside0.mk (HST.out.below (hb4.trans ((below_setRow (below_alloc (Below.refl w4.heap.size w4) (.cells zRice 24 (0, 0))) (Nat.le_refl _) zRice).mono hb4.size)))
        have HN := Aside0.mk (blk_new w4 (.cells zRice 24 (0, 0)))
        clear hb4 HST
        go_wp2_with ((with_reducible refine wpList_store_row ?_ 24 (.tmp 11) (.tmp 23) ?_ (w4.heap.size) (zRice) ?_ ?_ 24 (zRice) (HN.out) (rc_info _ _ _ _) ?_ (rc_one _ _ _ _ _ _ _ _) ?_); rfl; rfl; rfl; rfl; rfl)
        go_roundw
        case rel => exact ⟨i + 1, bo, n, vP, vE, ps, es, by omega, by go_num, rfl, HST4, ⟨by rw [HD.out]; exact HX2.out⟩⟩
        case measure => simp [intOf]; omega
      · obtain ⟨AP, nP, cP, eP⟩ := hP'.shape
        subst eP
        obtain ⟨AE, nE, cE, eE⟩ := hE'.shape
        subst eE
        have hbN : Below w4.heap.size w4 ((w4.alloc (.cells zRice 24 (0, 0))).setRow w4.heap.size #[.int .i64 0, .int .i64 (i : Int), .slice AP nP cP, .slice AE nE cE]) := below_setRow (below_alloc (Below.refl w4.heap.size w4) (.cells zRice 24 (0, 0))) (Nat.le_refl _) _
        have HST4 := Aside0.mk (HST.out.below (hb4.trans (hbN.mono hb4.size)))
        have HP4 := Aside0.mk ((hP'.lower HST.out.bel.size).below hbN)
        have HE4 := Aside0.mk ((hE'.lower HST.out.bel.size).below hbN)
        have HN := Aside0.mk (blk_new w4 (.cells zRice 24 (0, 0)))
        have HN4 := Aside0.mk (setRow_heap _ _ _ #[.int .i64 0, .int .i64 (i : Int), .slice AP nP cP, .slice AE nE cE] _ _ HN.out)
        clear hb4 HST hP' hE' hbN
        go_upto_region 6 with ((with_reducible refine wpList_store_row ?_ 24 (.tmp 11) (.tmp 23) ?_ (w4.heap.size) (#[.int .i64 0, .int .i64 (i : Int), .slice AP nP cP, .slice AE nE cE]) ?_ ?_ 24 (zRice) (HN.out) (rc_info _ _ _ _) ?_ (rc_one _ _ _ _ _ _ _ _) ?_); rfl; rfl; rfl; rfl; rfl)
        generalize (w4.alloc (.cells zRice 24 (0, 0))).setRow w4.heap.size #[.int .i64 0, .int .i64 (i : Int), .slice AP nP cP, .slice AE nE cE] = w5 at *
        generalize w4.heap.size = b11 at *
        clear HN
        by_cases g0 : 0 ≤ sum
        · by_cases g1 : n < 0
          · have HX3 : Aside0 (bestL block order l d (i + 1) ((i : Int), ps', es', sum) = X) := ⟨by have := HX2.out; rwa [better_take (by omega)] at this⟩
            clear HX2
            have HST6 := Aside0.mk (HST4.out.put (o' := (i : Int)) h68 hC8 HP4.out HE4.out)
            have HR8 := Aside0.mk HST4.out.r8
            have c0 := blk_cell HN4.out 0
            have c1 := blk_cell HN4.out 1
            have c2 := blk_cell HN4.out 2
            have c3 := blk_cell HN4.out 3
            go_wp2_with ((with_reducible refine wpList_store_row ?_ 24 (.tmp 8) (.tmp 36) ?_ (b8) (#[.int .i64 0, .int .i64 (i : Int), .slice AP nP cP, .slice AE nE cE]) ?_ ?_ 24 (#[.int .i64 0, .int .i64 bo, vP, vE]) (HR8.out) (rc_info _ _ _ _) ?_ (rc_one _ _ _ _ _ _ _ _) ?_); rfl; rfl; rfl; rfl; rfl)
            clear c0 c1 c2 c3
            go_roundw
            case rel => exact ⟨i + 1, (i : Int), sum, _, _, ps', es', by omega, by go_num, rfl, HST6, ⟨by rw [HD.out]; exact HX3.out⟩⟩
            case measure => simp [intOf]; omega
          · by_cases g2 : sum < n
            · have HX3 : Aside0 (bestL block order l d (i + 1) ((i : Int), ps', es', sum) = X) := ⟨by have := HX2.out; rwa [better_take (by omega)] at this⟩
              clear HX2
              have HST6 := Aside0.mk (HST4.out.put (o' := (i : Int)) h68 hC8 HP4.out HE4.out)
              have HR8 := Aside0.mk HST4.out.r8
              have c0 := blk_cell HN4.out 0
              have c1 := blk_cell HN4.out 1
              have c2 := blk_cell HN4.out 2
              have c3 := blk_cell HN4.out 3
              go_wp2_with ((with_reducible refine wpList_store_row ?_ 24 (.tmp 8) (.tmp 36) ?_ (b8) (#[.int .i64 0, .int .i64 (i : Int), .slice AP nP cP, .slice AE nE cE]) ?_ ?_ 24 (#[.int .i64 0, .int .i64 bo, vP, vE]) (HR8.out) (rc_info _ _ _ _) ?_ (rc_one _ _ _ _ _ _ _ _) ?_); rfl; rfl; rfl; rfl; rfl)
              clear c0 c1 c2 c3
              go_roundw
              case rel => exact ⟨i + 1, (i : Int), sum, _, _, ps', es', by omega, by go_num, rfl, HST6, ⟨by rw [HD.out]; exact HX3.out⟩⟩
              case measure => simp [intOf]; omega
            · have HX3 : Aside0 (bestL block order l d (i + 1) (bo, ps, es, n) = X) := ⟨by have := HX2.out; rwa [better_keep (by omega)] at this⟩
              clear HX2
              go_wp2
              go_roundw
              case rel => exact ⟨i + 1, bo, n, vP, vE, ps, es, by omega, by go_num, rfl, HST4, ⟨by rw [HD.out]; exact HX3.out⟩⟩
              case measure => simp [intOf]; omega
        · have g0' : sum < 0 := by omega
          have HX3 : Aside0 (bestL block order l d (i + 1) (bo, ps, es, n) = X) := ⟨by have := HX2.out; rwa [better_keep (by omega)] at this⟩
          clear HX2
          go_wp2
          go_roundw
          case rel => exact ⟨i + 1, bo, n, vP, vE, ps, es, by omega, by go_num, rfl, HST4, ⟨by rw [HD.out]; exact HX3.out⟩⟩
          case measure => simp [intOf]; omega
    · obtain rfl : i = 5 := by omega
      have HXS : Aside0 (X = (bo, ps, es, n)) := ⟨HX.out.symm⟩
      clear HX
      obtain ⟨AP, nP, cP, eP⟩ := HST.out.P.shape
      subst eP
      obtain ⟨AE, nE, cE, eE⟩ := HST.out.E.shape
      subst eE
      have c0 := blk_cell HST.out.r8 0
      have c1 := blk_cell HST.out.r8 1
      have c2 := blk_cell HST.out.r8 2
      have c3 := blk_cell HST.out.r8 3
      go_wp2_with ((with_reducible refine wpList_store_row ?_ 24 (.tmp 6) (.tmp 39) ?_ (w.heap.size) (#[.int .i64 0, .int .i64 bo, .slice AP nP cP, .slice AE nE cE]) ?_ ?_ 24 (zRice) (HST.out.z6) (rc_info _ _ _ _) ?_ (rc_one _ _ _ _ _ _ _ _) ?_); rfl; rfl; rfl; rfl; rfl)
      refine bodyPost_ret (results_ct rfl _ _ w.heap.size 24 #[.int .i64 0, .int .i64 bo, .slice AP nP cP, .slice AE nE cE] (0, 0) _ rfl (setRow_heap _ _ _ _ _ _ HST.out.z6) Try.underlying24 rfl (rc_info _ _ _ _)) rfl ?_
      rw [HXS.out]
      exact ⟨_, _, rfl, HST.out.P.setRow HST.out.z6 (by decide), HST.out.E.setRow HST.out.z6 (by decide), below_setRow HST.out.bel (Nat.le_refl _) _⟩
end Go.Proofs.Ytfhekkoibmlmpaa.Hand

/- Contracts of layer 8, proved by hand: what is the same is the same; short lists. -/
namespace Go.Proofs.Ytfhekkoibmlmpaa.Hand
open Go.RowKit Go.Proofs.Ytfhekkoibmlmpaa.Q Go.Proofs.YtfhekkoibmlmpaaW.PrintWords Go.Proofs.YtfhekkoibmlmpaaW.PrintLast Go.Proofs.YtfhekkoibmlmpaaW.PrintMore
set_option linter.unusedVariables false
set_option linter.unusedSimpArgs false

theorem ints_loop (a : List Int) (h : a.length ≤ 9223372036854775807) : ∀ d i : Nat, i + d = a.length → lacquerref05_Ints.l0 (d + 1) a a (i : Int) = some true
  | 0, i, hi => by
    simp only [lacquerref05_Ints.l0]
    rw [if_neg (by omega)]
  | d + 1, i, hi => by
    have ih := ints_loop a h d (i + 1) (by omega)
    rw [lacquerref05_Ints.l0]
    rw [if_pos (by omega), if_pos (by omega), if_pos (by omega), if_pos rfl, w64h _ (by omega) (by omega)]
    exact ih
theorem Ints_same (l : List Int) (hl : l.length ≤ 9223372036854775807) (A : Option Addr) (c : Nat) (B : Option Addr) (d : Nat) (w : World) (hA : Kd.C (Kd.int .i64) w A l.length l) (hc : l.length ≤ c) (hB : Kd.C (Kd.int .i64) w B l.length l) (hd : l.length ≤ d) :
    Calls Try.prog 23 #[.slice A l.length c, .slice B l.length d] w fun e w' => e = .returned (.bool true) ∧ Drawn0 w w' := by
  refine lacquerref05_Ints.calls (l.length + 1) A c l B d l true w hA hc hB hd ?_
  unfold lacquerref05_Ints.f
  rw [if_pos rfl]
  exact ints_loop l hl l.length 0 (by omega)
theorem same_l1 (m o : Int) (ps es : List Int) (h : es.length ≤ 9223372036854775807) : ∀ d i : Nat, i + d = es.length → lacquerref08_Same.l1 (d + 1) (i : Int) m o ps es m o ps es = some true
  | 0, i, hi => by
    simp only [lacquerref08_Same.l1]
    rw [if_neg (by omega)]
  | d + 1, i, hi => by
    have ih := same_l1 m o ps es h d (i + 1) (by omega)
    rw [lacquerref08_Same.l1]
    rw [if_pos (by omega), if_pos (by omega), if_pos (by omega), if_pos rfl, w64h _ (by omega) (by omega)]
    exact ih
theorem same_l0 (m o : Int) (ps es : List Int) (h : es.length ≤ 9223372036854775807) (hp : ps.length ≤ 9223372036854775807) : ∀ d i : Nat, i + d = ps.length → lacquerref08_Same.l0 (d + 1 + (es.length + 1)) (i : Int) m o ps es m o ps es = some true
  | 0, i, hi => by
    rw [show 0 + 1 + (es.length + 1) = (es.length + 1) + 1 by omega, lacquerref08_Same.l0]
    rw [if_neg (by omega)]
    exact same_l1 m o ps es h es.length 0 (by omega)
  | d + 1, i, hi => by
    have ih := same_l0 m o ps es h hp d (i + 1) (by omega)
    rw [show d + 1 + 1 + (es.length + 1) = (d + 1 + (es.length + 1)) + 1 by omega, lacquerref08_Same.l0]
    rw [if_pos (by omega), if_pos (by omega), if_pos (by omega), if_pos rfl, w64h _ (by omega) (by omega)]
    exact ih
theorem Same_same (m o : Int) (ps es : List Int) (h : es.length ≤ 9223372036854775807) (hp : ps.length ≤ 9223372036854775807) (AP AE BP BE : Option Addr) (cP cE dP dE : Nat) (w : World) (hAP : Kd.C (Kd.int .i64) w AP ps.length ps) (hcP : ps.length ≤ cP)
    (hAE : Kd.C (Kd.int .i64) w AE es.length es) (hcE : es.length ≤ cE) (hBP : Kd.C (Kd.int .i64) w BP ps.length ps) (hdP : ps.length ≤ dP) (hBE : Kd.C (Kd.int .i64) w BE es.length es) (hdE : es.length ≤ dE) :
    Calls Try.prog 24 #[.agg #[.int .i64 m, .int .i64 o, .slice AP ps.length cP, .slice AE es.length cE], .agg #[.int .i64 m, .int .i64 o, .slice BP ps.length dP, .slice BE es.length dE]] w fun e w' => e = .returned (.bool true) ∧ Below w.heap.size w w' := by
  refine lacquerref08_Same.calls (ps.length + 1 + (es.length + 1) + 1) m o AP cP ps AE cE es m o BP dP ps BE dE es true w hAP hcP hAE hcE hBP hdP hBE hdE ?_
  unfold lacquerref08_Same.f
  rw [if_pos rfl, if_pos rfl, if_pos rfl, lacquerref08_Same.j0]
  rw [if_neg (by simp)]
  exact same_l0 m o ps es h hp ps.length 0 (by omega)
/-- Short lists. -/
def shortP (l : List Int) : Prop := (∀ x ∈ l, -4000 ≤ x ∧ x ≤ 4000) ∧ l.length ≤ 5000
instance (l : List Int) : Decidable (shortP l) := by unfold shortP; infer_instance
theorem short_l0 (l : List Int) (h : l.length ≤ 9223372036854775807) : ∀ d i : Nat, i + d = l.length → lacquerlaw08_short.l0 (d + 1) l (i : Int) = some (decide ((∀ x ∈ l.drop i, -4000 ≤ x ∧ x ≤ 4000) ∧ l.length ≤ 5000))
  | 0, i, hi => by
    simp only [lacquerlaw08_short.l0]
    rw [if_neg (by omega), List.drop_eq_nil_of_le (by omega)]
    congr 1
    simp
    omega
  | d + 1, i, hi => by
    have ih := short_l0 l h d (i + 1) (by omega)
    have hlt : i < l.length := by omega
    have hrd : rd l (i : Nat) = l[i] := by simp [rd, hlt]
    rw [lacquerlaw08_short.l0]
    rw [if_pos (by omega), if_pos (by omega), w64h _ (by omega) (by omega), List.drop_eq_getElem_cons hlt, ← hrd]
    generalize rd l (i : Nat) = x
    by_cases h1 : x > 4000
    · rw [if_pos h1, decide_eq_false]
      intro hh
      have := hh.1 x List.mem_cons_self
      omega
    · rw [if_neg h1]
      by_cases h2 : x < -4000
      · rw [if_pos h2, decide_eq_false]
        intro hh
        have := hh.1 x List.mem_cons_self
        omega
      · rw [if_neg h2]
        refine ih.trans ?_
        congr 1
        rw [decide_eq_decide]
        simp only [List.forall_mem_cons]
        constructor
        · exact fun hh => ⟨⟨⟨by omega, by omega⟩, hh.1⟩, hh.2⟩
        · exact fun hh => ⟨hh.1.2, hh.2⟩
theorem short_any (l : List Int) (h : l.length ≤ 9223372036854775807) (A : Option Addr) (c : Nat) (w : World) (hA : Kd.C (Kd.int .i64) w A l.length l) (hc : l.length ≤ c) :
    Calls Try.prog 8 #[.slice A l.length c] w fun e w' => e = .returned (.bool (decide (shortP l))) ∧ Drawn0 w w' := by
  refine lacquerlaw08_short.calls (l.length + 1) A c l _ w hA hc ?_
  unfold lacquerlaw08_short.f
  have := short_l0 l h l.length 0 (by omega)
  rw [List.drop_zero] at this
  exact this
end Go.Proofs.Ytfhekkoibmlmpaa.Hand

/- Contracts of layer 1, proved by hand: the reference's writer. -/
namespace Go.Proofs.Ytfhekkoibmlmpaa.Hand
open Go.RowKit
set_option linter.unusedVariables false
set_option linter.unusedSimpArgs false

end Go.Proofs.Ytfhekkoibmlmpaa.Hand
namespace Go.Proofs.Ytfhekkoibmlmpaa.Hand
open Go.RowKit Go.Proofs.Ytfhekkoibmlmpaa.Q Go.Proofs.YtfhekkoibmlmpaaW.PrintWords Go.Proofs.YtfhekkoibmlmpaaW.PrintLast Go.Proofs.YtfhekkoibmlmpaaW.PrintMore
set_option linter.unusedVariables false
set_option linter.unusedSimpArgs false

def b01 (b : Bool) : Int := if b then 1 else 0
def ones (bs : List Bool) : List Int := bs.map b01
theorem ones_snoc (bs : List Bool) (b : Bool) : ones (bs ++ [b]) = ones bs ++ [b01 b] := by simp [ones]
/-- The reference's writer of these bits: a byte each. -/
def XW (w : World) (B g : Nat) (v : Value) (bs : List Bool) : Prop := w.heap[g]? = some (.cells #[v] 33 (0, 0)) ∧ BytesAt w B v (ones bs) ∧ B ≤ g
theorem XW.below {w w' : World} {B g : Nat} {v : Value} {bs : List Bool} (h : XW w B g v bs) (hb : Below w.heap.size w w') : XW w' B g v bs := ⟨blk_below h.1 hb, h.2.1.below hb, h.2.2⟩
theorem XW.lt {w : World} {B g : Nat} {v : Value} {bs : List Bool} (h : XW w B g v bs) : g < w.heap.size := blk_lt h.1
theorem XW.grown {W w1 : World} {B g : Nat} {v : Value} {bs : List Bool} (h : XW W B g v bs) (hg : W.grownBy w1 v.ownBlock) : w1.heap[g]? = some (.cells #[v] 33 (0, 0)) := by
  rw [hg.block g h.lt (fun e => ?_)]
  · exact h.1
  · exact Kd.R_ne h.2.1.all h.1 (by decide) e
theorem XW.put {w1 : World} {B g : Nat} {v v1 : Value} {bs : List Bool} {one : Bool} (hb : w1.heap[g]? = some (.cells #[v] 33 (0, 0))) (hr : BytesAt w1 B v1 (ones bs ++ [b01 one])) (hB : B ≤ g) : XW (w1.setCell ⟨g, 0, none⟩ v1) B g v1 (bs ++ [one]) := by
  rw [← ones_snoc] at hr
  exact ⟨blk_put hb 0 v1 rfl, hr.set hb (by decide) 0 v1, hB⟩
end Go.Proofs.Ytfhekkoibmlmpaa.Hand
namespace Go.Proofs.Ytfhekkoibmlmpaa.Hand
open Go.RowKit Go.Proofs.Ytfhekkoibmlmpaa.Q Go.Proofs.YtfhekkoibmlmpaaW.PrintWords Go.Proofs.YtfhekkoibmlmpaaW.PrintLast Go.Proofs.YtfhekkoibmlmpaaW.PrintMore
set_option linter.unusedVariables false
set_option linter.unusedSimpArgs false

end Go.Proofs.Ytfhekkoibmlmpaa.Hand
namespace Go.Proofs.Ytfhekkoibmlmpaa.Hand
open Go.RowKit Go.Proofs.Ytfhekkoibmlmpaa.Q Go.Proofs.YtfhekkoibmlmpaaW.PrintWords Go.Proofs.YtfhekkoibmlmpaaW.PrintLast Go.Proofs.YtfhekkoibmlmpaaW.PrintMore
set_option linter.unusedVariables false
set_option linter.unusedSimpArgs false

end Go.Proofs.Ytfhekkoibmlmpaa.Hand

/- Contracts of layer 8, proved by hand: the reference's Encode; where it is refused ahead; its words. -/
namespace Go.Proofs.Ytfhekkoibmlmpaa.Hand
open Go.RowKit Go.Proofs.Ytfhekkoibmlmpaa.Q Go.Proofs.YtfhekkoibmlmpaaW.PrintWords Go.Proofs.YtfhekkoibmlmpaaW.PrintLast Go.Proofs.YtfhekkoibmlmpaaW.PrintMore
set_option linter.unusedVariables false
set_option linter.unusedSimpArgs false

section
variable {ops : Array Oper} {o : Oper} {a : Act} {Q : Exit → Act → World → Prop} {Kc : Act → World → Prop} {rest : List Oper}
end
theorem C_cell {w : World} {A : Option Addr} {xs : List Int} (h : Kd.C (Kd.int .i64) w A xs.length xs) (i : Nat) (hi : i < xs.length) : ∃ ad, A = some ad ∧ w.cell? (ad.add i) = some (.int .i64 (rd xs (i : Int))) := by
  have hr : ReadsInt w .i64 A xs.length xs := Kd.reads_of_C (d := (0 : Int)) (enc := Value.int .i64) h
  obtain ⟨ad, e, hx⟩ := hr.at_ (i : Int) (by omega) (by omega)
  rw [Int.toNat_natCast] at hx
  exact ⟨ad, e, hx⟩
end Go.Proofs.Ytfhekkoibmlmpaa.Hand

/- Contracts of layer 8, proved by hand: awake. -/
namespace Go.Proofs.Ytfhekkoibmlmpaa.Hand
open Go.RowKit Go.Proofs.Ytfhekkoibmlmpaa.Q Go.Proofs.YtfhekkoibmlmpaaW.PrintWords Go.Proofs.YtfhekkoibmlmpaaW.PrintLast Go.Proofs.YtfhekkoibmlmpaaW.PrintMore
set_option linter.unusedVariables false
set_option linter.unusedSimpArgs false

/-- A literal list. -/
theorem lit4 {w : World} {g : Nat} (h : w.heap[g]? = some (.cells #[.int .i64 0, .int .i64 (-1), .int .i64 1, .int .i64 2] 3 (0, 0))) : Kd.C (Kd.int .i64) w (some ⟨g, 0, none⟩) ([0, -1, 1, 2] : List Int).length [0, -1, 1, 2] := by
  refine Kd.C_of_reads (d := (0 : Int)) (enc := Value.int .i64) ⟨rfl, by simp, fun _ => ⟨_, rfl, fun j hj => ?_⟩⟩
  rw [add_plain]
  have hc := blk_cell h j
  rw [hc]
  match j, hj with
  | 0, _ => rfl
  | 1, _ => rfl
  | 2, _ => rfl
  | 3, _ => rfl
theorem best4 : bestF 4 0 [0, -1, 1, 2] = (0, [0], [-1], 21) := by decide +kernel
theorem can4 : canE 0 0 [0] [-1] 4 0 [0, -1, 1, 2] := by decide +kernel
theorem len4 : (bitsE 0 0 [0] [-1] 4 0 [0, -1, 1, 2]).length = 21 := by decide +kernel
theorem dec4 : decF (strOfNums (pack (bitsE 0 0 [0] [-1] 4 0 [0, -1, 1, 2]))) 0 4 0 = (0, 0, [0, -1, 1, 2], [0], [-1], 0, 21) := by
  have h := dec_back (A := []) (R := []) 0 0 4 0 [0] [-1] [0, -1, 1, 2] (text_holds (bitsE 0 0 [0] [-1] 4 0 [0, -1, 1, 2])) (by simp) can4
  rw [len4] at h
  exact h
theorem cost41 : costF [0, -1, 1, 2] 1 = 11 := by decide +kernel
theorem cost4n : costF [0, -1, 1, 2] 31 = -1 := by decide +kernel
theorem span4 : ∀ x ∈ ([0, -1, 1, 2] : List Int), -9223372036854775808 ≤ x ∧ x ≤ 9223372036854775807 := by decide
theorem Cost_any (l : List Int) (k : Int) (A : Option Addr) (c : Nat) (w : World) (hl : l.length ≤ 65535) (hin : ∀ x ∈ l, -9223372036854775808 ≤ x ∧ x ≤ 9223372036854775807) (hA : Kd.C (Kd.int .i64) w A l.length l) (hc : l.length ≤ c) :
    Calls Try.prog 28 #[.slice A l.length c, .int .i64 k] w fun e w' => e = .returned (.int .i64 (costF l k)) ∧ Drawn0 w w' := by
  obtain ⟨n, h⟩ := (cost_ev l k hl hin).rounds
  exact rice_Cost.calls n A c l k _ w hA hc h
theorem pack_size (bs : List Bool) : (strOfNums (pack bs)).size = (bs.length + 7) / 8 := by rw [size_nums, pack_length]
set_option maxHeartbeats 16000000 in
set_option maxRecDepth 100000 in
theorem awake_any (w : World) : Calls Try.prog 9 #[] w fun e w' => e = .returned (.bool true) ∧ Below w.heap.size w w' := by
  have hup := Try.underlying28
  have hup2 := Try.underlying45
  have hblk := blk_new w (.cells #[.int .i64 0, .int .i64 (-1), .int .i64 1, .int .i64 2] 3 (0, 0))
  have hbel := below_alloc (Below.refl w.heap.size w) (.cells #[.int .i64 0, .int .i64 (-1), .int .i64 1, .int .i64 2] 3 (0, 0))
  have hbe := Best_any 4 0 [0, -1, 1, 2] (some ⟨w.heap.size, 0, none⟩) 4 _ (by simp) (lit4 hblk) span4
  rw [best4] at hbe
  have HBE : Aside0 (Calls Try.prog 26 #[.int .i64 4, .int .i64 0, .slice (some ⟨w.heap.size, 0, none⟩) 4 4] (w.alloc (.cells #[.int .i64 0, .int .i64 (-1), .int .i64 1, .int .i64 2] 3 (0, 0))) fun e w' => ∃ vP vE, e = .returned (.tuple #[.agg #[.int .i64 0, .int .i64 0, vP, vE], .int .i64 21]) ∧
      IntsAt w' (w.alloc (.cells #[.int .i64 0, .int .i64 (-1), .int .i64 1, .int .i64 2] 3 (0, 0))).heap.size vP [0] ∧ IntsAt w' (w.alloc (.cells #[.int .i64 0, .int .i64 (-1), .int .i64 1, .int .i64 2] 3 (0, 0))).heap.size vE [-1] ∧ Below (w.alloc (.cells #[.int .i64 0, .int .i64 (-1), .int .i64 1, .int .i64 2] 3 (0, 0))).heap.size (w.alloc (.cells #[.int .i64 0, .int .i64 (-1), .int .i64 1, .int .i64 2] 3 (0, 0))) w') := ⟨hbe⟩
  have HC0 : Aside0 (Kd.C (Kd.int .i64) (w.alloc (.cells #[.int .i64 0, .int .i64 (-1), .int .i64 1, .int .i64 2] 3 (0, 0))) (some ⟨w.heap.size, 0, none⟩) 4 [0, -1, 1, 2]) := ⟨lit4 hblk⟩
  have HB0 := Aside0.mk hbel
  clear hblk hbel hbe
  go_enter Try.func9, Try.ntmps9
  go_wp2_with fail
  with_reducible refine HBE.out.mono ?_
  generalize w.alloc (.cells #[.int .i64 0, .int .i64 (-1), .int .i64 1, .int .i64 2] 3) = w0 at *
  rintro e w1 ⟨vP, vE, rfl, hP, hE, hb⟩
  obtain ⟨AP, cP, rfl, hcP, hCP⟩ := hP.C
  obtain ⟨AE, cE, rfl, hcE, hCE⟩ := hE.C
  have HB1 := Aside0.mk (HB0.out.trans (hb.mono HB0.out.size))
  have HC1 := Aside0.mk (Kd.C_below HC0.out hb)
  have HP1 : Aside0 (Kd.C (Kd.int .i64) w1 AP 1 [0]) := ⟨hCP⟩
  have HE1 : Aside0 (Kd.C (Kd.int .i64) w1 AE 1 [-1]) := ⟨hCE⟩
  have hcP1 : 1 ≤ cP := hcP
  have hcE1 : 1 ≤ cE := hcE
  clear hb hP hE hcP hcE hCP hCE HB0 HC0 HBE
  have HN := Aside0.mk (blk_new w1 (.cells zRice 24 (0, 0)))
  have hbN := below_setRow (below_alloc (Below.refl w1.heap.size w1) (.cells zRice 24 (0, 0))) (Nat.le_refl _) #[.int .i64 0, .int .i64 0, .slice AP 1 cP, .slice AE 1 cE]
  have HX2 := Aside0.mk (setRow_heap _ _ _ #[.int .i64 0, .int .i64 0, .slice AP 1 cP, .slice AE 1 cE] _ _ HN.out)
  have HB2 := Aside0.mk (HB1.out.trans (hbN.mono HB1.out.size))
  have HC2 := Aside0.mk (Kd.C_below HC1.out hbN)
  have HP2 := Aside0.mk (Kd.C_below HP1.out hbN)
  have HE2 := Aside0.mk (Kd.C_below HE1.out hbN)
  clear hbN HC1 HP1 HE1
  go_upto_region 3 with ((with_reducible refine wpList_store_row ?_ 24 (.tmp 2) (.tmp 14) ?_ (w1.heap.size) (#[.int .i64 0, .int .i64 0, .slice AP 1 cP, .slice AE 1 cE]) ?_ ?_ 24 (zRice) (HN.out) (rc_info _ _ _ _) ?_ (rc_one _ _ _ _ _ _ _ _) ?_); rfl; rfl; rfl; rfl; rfl)
  generalize (w1.alloc (.cells zRice 24 (0, 0))).setRow w1.heap.size #[.int .i64 0, .int .i64 0, .slice AP 1 cP, .slice AE 1 cE] = w2 at *
  generalize w1.heap.size = g2 at *
  clear HN
  have HW3 := Aside0.mk (new_at w2 w2.heap.size (Nat.le_refl _))
  have hb3 := below_alloc (Below.refl w2.heap.size w2) (.cells #[.int .i64 0, .slice none 0 0] 64)
  go_wp2_with fail
  refine (New_any _).mono ?_
  rintro e w3 ⟨rfl, rfl⟩
  generalize w2.alloc (.cells #[.int .i64 0, .slice none 0 0] 64) = w3 at HW3 hb3 ⊢
  have hsz : w.heap.size ≤ w2.heap.size := HB2.out.size
  have hg2 : g2 < w2.heap.size := blk_lt HX2.out
  have hLP : ListAt w3 w2.heap.size (.slice none 0 0) AP [0] := ListAt.elder HP2.out hb3 (Nat.le_refl _) (fun k hk => by simp [Value.ownBlock] at hk)
  have hLE : ListAt w3 w2.heap.size (.slice none 0 0) AE [-1] := ListAt.elder HE2.out hb3 (Nat.le_refl _) (fun k hk => by simp [Value.ownBlock] at hk)
  have hLL : ListAt w3 w2.heap.size (.slice none 0 0) (some ⟨w.heap.size, 0, none⟩) [0, -1, 1, 2] := ListAt.elder HC2.out hb3 (Nat.le_refl _) (fun k hk => by simp [Value.ownBlock] at hk)
  have hen := Encode_any 0 0 4 0 AP AE (some ⟨w.heap.size, 0, none⟩) cP cE 4 [0] [-1] [0, -1, 1, 2] [] w2.heap.size w2.heap.size (.slice none 0 0) w3 (by decide) (by decide) span4 hcP1 hcE1 (by simp) HW3.out hLP hLE hLL (by simp)
  rw [if_pos can4, if_pos can4, List.nil_append] at hen
  have HEN : Aside0 (Calls Try.prog 13 #[.pointer (some ⟨w2.heap.size, 0, none⟩), .agg #[.int .i64 0, .int .i64 0, .slice AP 1 cP, .slice AE 1 cE], .int .i64 4, .int .i64 0, .slice (some ⟨w.heap.size, 0, none⟩) 4 4] w3 fun e w' => e = .returned (.int .i64 0) ∧ ∃ v', WAt w' w2.heap.size w2.heap.size v' (bitsE 0 0 [0] [-1] 4 0 [0, -1, 1, 2]) ∧ Moved w2.heap.size w2.heap.size w3 (.slice none 0 0) w' v') := ⟨hen⟩
  have hb3' : Below w2.heap.size w2 w3 := hb3
  have HX3 := Aside0.mk (blk_below HX2.out hb3)
  have HBB3 := Aside0.mk hb3'
  have c0 := blk_cell HX3.out 0
  have c1 := blk_cell HX3.out 1
  have c2 := blk_cell HX3.out 2
  have c3 := blk_cell HX3.out 3
  clear hen hb3 hb3' hLP hLE hLL HW3
  go_wp2_with fail
  with_reducible refine HEN.out.mono ?_
  rintro e w4 ⟨rfl, v4, hw4, hm4⟩
  have HB4 := Aside0.mk (HBB3.out.trans hm4.below)
  have HW4 := Aside0.mk hw4
  have HLEN := Aside0.mk len4
  have HDEC := Aside0.mk dec4
  clear hw4 hm4 HBB3 HX3 c0 c1 c2 c3 HEN
  generalize bitsE 0 0 [0] [-1] 4 0 [0, -1, 1, 2] = bx at HW4 HLEN HDEC
  have HBY := Aside0.mk (Bytes_any bx _ _ v4 w4 HW4.out)
  have HSS : Aside0 ((strOfNums (pack bx)).size = 3) := ⟨by rw [pack_size, HLEN.out]⟩
  generalize strOfNums (pack bx) = s at HBY HDEC HSS
  go_wp2_with fail
  with_reducible refine HBY.out.mono ?_
  rintro e w4' ⟨rfl, rfl⟩
  clear HBY
  go_wp2_with fail
  with_reducible refine (Of_any s w4).mono ?_
  rintro e w5 ⟨rfl, rfl⟩
  have hR5 : RAt (w4.alloc (.cells #[.int .i64 0, .string s] 75)) w4.heap.size s 0 := blk_new w4 _
  have hb5 := below_alloc (Below.refl w4.heap.size w4) (.cells #[.int .i64 0, .string s] 75)
  generalize w4.alloc (.cells #[.int .i64 0, .string s] 75) = w5 at hR5 hb5 ⊢
  have hde := Decode_any s (by rw [HSS.out]; decide) 0 (Nat.zero_le _) 4 0 w4.heap.size w4.heap.size (Nat.le_refl _) w5 hb5.size hR5
  rw [HDEC.out] at hde
  have HDE := Aside0.mk hde
  have HB5 := Aside0.mk hb5
  clear hR5 hb5 hde
  go_wp2_with fail
  with_reducible refine HDE.out.mono ?_
  rintro e w6 ⟨vl, vP', vE', rfl, hl6, hp6, he6, ⟨q, hr6, hq6, hq0⟩, ht6⟩
  have hq21 : q = 21 := hq0 (by first | rfl | trivial)
  subst hq21
  have HB6 := Aside0.mk (HB5.out.trans ht6.below)
  obtain ⟨AL, cL, rfl, hcL, hCL⟩ := hl6.C
  obtain ⟨AP', cP', rfl, hcP', hCP'⟩ := hp6.C
  obtain ⟨AE', cE', rfl, hcE', hCE'⟩ := he6.C
  have HL6 : Aside0 (Kd.C (Kd.int .i64) w6 AL 4 [0, -1, 1, 2]) := ⟨hCL⟩
  have HP6 : Aside0 (Kd.C (Kd.int .i64) w6 AP' 1 [0]) := ⟨hCP'⟩
  have HE6 : Aside0 (Kd.C (Kd.int .i64) w6 AE' 1 [-1]) := ⟨hCE'⟩
  have HR6 := Aside0.mk hr6
  have hcL4 : 4 ≤ cL := hcL
  have hcP4 : 1 ≤ cP' := hcP'
  have hcE4 : 1 ≤ cE' := hcE'
  clear hl6 hp6 he6 hr6 hq6 hq0 ht6 hCL hCP' hCE' hcL hcP' hcE' HDE HB5
  have HN := Aside0.mk (blk_new w6 (.cells zRice 24 (0, 0)))
  have hbN := below_setRow (below_alloc (Below.refl w6.heap.size w6) (.cells zRice 24 (0, 0))) (Nat.le_refl _) #[.int .i64 0, .int .i64 0, .slice AP' 1 cP', .slice AE' 1 cE']
  have HX7 := Aside0.mk (setRow_heap _ _ _ #[.int .i64 0, .int .i64 0, .slice AP' 1 cP', .slice AE' 1 cE'] _ _ HN.out)
  have HB7 := Aside0.mk hbN
  clear hbN
  go_upto_region 11 with ((with_reducible refine wpList_store_row ?_ 24 (.tmp 8) (.tmp 32) ?_ (w6.heap.size) (#[.int .i64 0, .int .i64 0, .slice AP' 1 cP', .slice AE' 1 cE']) ?_ ?_ 24 (zRice) (HN.out) (rc_info _ _ _ _) ?_ (rc_one _ _ _ _ _ _ _ _) ?_); rfl; rfl; rfl; rfl; rfl)
  generalize (w6.alloc (.cells zRice 24 (0, 0))).setRow w6.heap.size #[.int .i64 0, .int .i64 0, .slice AP' 1 cP', .slice AE' 1 cE'] = w7 at *
  clear HN
  have HF : Aside0 (∀ W, Below w7.heap.size w7 W → WAt W w2.heap.size w2.heap.size v4 bx ∧ RAt W w4.heap.size s 21 ∧ W.heap[g2]? = some (.cells #[.int .i64 0, .int .i64 0, .slice AP 1 cP, .slice AE 1 cE] 24 (0, 0)) ∧ W.heap[w6.heap.size]? = some (.cells #[.int .i64 0, .int .i64 0, .slice AP' 1 cP', .slice AE' 1 cE'] 24 (0, 0)) ∧
      Kd.C (Kd.int .i64) W (some ⟨w.heap.size, 0, none⟩) 4 [0, -1, 1, 2] ∧ Kd.C (Kd.int .i64) W AP 1 [0] ∧ Kd.C (Kd.int .i64) W AE 1 [-1] ∧ Kd.C (Kd.int .i64) W AL 4 [0, -1, 1, 2] ∧ Kd.C (Kd.int .i64) W AP' 1 [0] ∧ Kd.C (Kd.int .i64) W AE' 1 [-1] ∧ Below w.heap.size w W) := ⟨fun W hW => by
    have h67 : Below w6.heap.size w6 W := HB7.out.trans (hW.mono HB7.out.size)
    have h47 : Below w4.heap.size w4 W := HB6.out.trans (h67.mono HB6.out.size)
    have h27 : Below w2.heap.size w2 W := HB4.out.trans (h47.mono HB4.out.size)
    exact ⟨HW4.out.below h47, HR6.out.below h67, blk_below HX2.out h27, blk_below HX7.out hW, Kd.C_below HC2.out h27, Kd.C_below HP2.out h27, Kd.C_below HE2.out h27, Kd.C_below HL6.out h67, Kd.C_below HP6.out h67, Kd.C_below HE6.out h67, HB2.out.trans (h27.mono hsz)⟩⟩
  clear HB2 HX2 HC2 HP2 HE2 HB4 HW4 HB6 HL6 HP6 HE6 HR6 HX7 HB7 HSS HDEC
  generalize w2.heap.size = gw at *
  generalize w4.heap.size = gr at *
  generalize w6.heap.size = g7 at *
  obtain ⟨f1, f2, f3, f4, f5, f6, f7, f8, f9, f10, f11⟩ := HF.out w7 (Below.refl _ _)
  have c2 := blk_cell f3 2
  obtain ⟨adP, rfl, hxP⟩ := C_cell f6 0 (by decide)
  rw [Addr.add_zero'] at hxP
  have HLE := fun W hW => Len_any bx gw gw v4 W (HF.out W hW).1
  rw [HLEN.out] at HLE
  have HLE := Aside0.mk HLE
  have HIN : Aside0 (∀ W, Below w7.heap.size w7 W → Calls Try.prog 23 #[.slice AL 4 cL, .slice (some ⟨w.heap.size, 0, none⟩) 4 4] W fun e w' => e = .returned (.bool true) ∧ Drawn0 W w') := ⟨fun W hW => Ints_same [0, -1, 1, 2] (by decide) AL cL (some ⟨w.heap.size, 0, none⟩) 4 W (HF.out W hW).2.2.2.2.2.2.2.1 hcL4 (HF.out W hW).2.2.2.2.1 (by decide)⟩
  have HSA : Aside0 (∀ W, Below w7.heap.size w7 W → Calls Try.prog 24 #[.agg #[.int .i64 0, .int .i64 0, .slice (some adP) 1 cP, .slice AE 1 cE], .agg #[.int .i64 0, .int .i64 0, .slice AP' 1 cP', .slice AE' 1 cE']] W fun e w' => e = .returned (.bool true) ∧ Below W.heap.size W w') := ⟨fun W hW =>
    Same_same 0 0 [0] [-1] (by decide) (by decide) (some adP) AE AP' AE' cP cE cP' cE' W (HF.out W hW).2.2.2.2.2.1 hcP1 (HF.out W hW).2.2.2.2.2.2.1 hcE1 (HF.out W hW).2.2.2.2.2.2.2.2.1 hcP4 (HF.out W hW).2.2.2.2.2.2.2.2.2.1 hcE4⟩
  have HAT := Aside0.mk (fun W hW => At_any s 21 gr W (HF.out W hW).2.1)
  have HCO : Aside0 (∀ W (k : Int), Below w7.heap.size w7 W → Calls Try.prog 28 #[.slice (some ⟨w.heap.size, 0, none⟩) 4 4, .int .i64 k] W fun e w' => e = .returned (.int .i64 (costF [0, -1, 1, 2] k)) ∧ Drawn0 W w') := ⟨fun W k hW => Cost_any [0, -1, 1, 2] k (some ⟨w.heap.size, 0, none⟩) 4 W (by decide) span4 (HF.out W hW).2.2.2.2.1 (by decide)⟩
  clear f1 f2 f3 f4 f5 f6 f7 f8 f9 f10 f11
  go_wp2_with fail
  with_reducible refine (HLE.out _ (Below.refl _ _)).mono ?_
  rintro e w8 ⟨rfl, rfl⟩
  clear c2 hxP
  go_wp2_with fail
  with_reducible refine (HIN.out _ (Below.refl _ _)).mono ?_
  rintro e w8 ⟨rfl, hd8⟩
  have HB8 : Aside0 (Below w7.heap.size w7 w8) := ⟨hd8.below⟩
  clear hd8
  obtain ⟨f1, f2, f3, f4, f5, f6, f7, f8, f9, f10, f11⟩ := HF.out w8 HB8.out
  have c0 := blk_cell f3 0
  have c1 := blk_cell f3 1
  have c2 := blk_cell f3 2
  have c3 := blk_cell f3 3
  have d0 := blk_cell f4 0
  have d1 := blk_cell f4 1
  have d2 := blk_cell f4 2
  have d3 := blk_cell f4 3
  clear f1 f2 f3 f4 f5 f6 f7 f8 f9 f10 f11
  go_wp2_with fail
  with_reducible refine (HSA.out _ HB8.out).mono ?_
  rintro e w9 ⟨rfl, hb9⟩
  have HB9 : Aside0 (Below w7.heap.size w7 w9) := ⟨HB8.out.trans (hb9.mono HB8.out.size)⟩
  clear hb9 c0 c1 c2 c3 d0 d1 d2 d3
  go_wp2_with fail
  with_reducible refine (HAT.out _ HB9.out).mono ?_
  rintro e w10 ⟨rfl, hd10⟩
  have HB10 : Aside0 (Below w7.heap.size w7 w10) := ⟨HB9.out.trans (hd10.below.mono HB9.out.size)⟩
  clear hd10
  go_wp2_with fail
  with_reducible refine (HCO.out _ _ HB10.out).mono ?_
  rw [cost41]
  rintro e w11 ⟨rfl, hd11⟩
  have HB11 : Aside0 (Below w7.heap.size w7 w11) := ⟨HB10.out.trans (hd11.below.mono HB10.out.size)⟩
  clear hd11
  go_wp2_with fail
  with_reducible refine (HCO.out _ _ HB11.out).mono ?_
  rw [cost4n]
  rintro e w12 ⟨rfl, hd12⟩
  have HB12 : Aside0 (Below w7.heap.size w7 w12) := ⟨HB11.out.trans (hd12.below.mono HB11.out.size)⟩
  clear hd12
  go_wp2
  go_ret
  exact ⟨rfl, (HF.out _ HB12.out).2.2.2.2.2.2.2.2.2.2⟩
end Go.Proofs.Ytfhekkoibmlmpaa.Hand

/- Contracts of layer 8, proved by hand: the reference's Best, its words. -/
namespace Go.Proofs.Ytfhekkoibmlmpaa.Hand
open Go.RowKit Go.Proofs.Ytfhekkoibmlmpaa.Q Go.Proofs.YtfhekkoibmlmpaaW.PrintWords Go.Proofs.YtfhekkoibmlmpaaW.PrintLast Go.Proofs.YtfhekkoibmlmpaaW.PrintMore
set_option linter.unusedVariables false
set_option linter.unusedSimpArgs false

/-- A recipe that grows, in a block of its own. -/
structure RTry (w0 : World) (b11 : Nat) (o : Int) (wr : World) (vP vE : Value) (ps es : List Int) : Prop where
  bel : Below w0.heap.size w0 wr
  r11 : wr.heap[b11]? = some (.cells #[.int .i64 0, .int .i64 o, vP, vE] 24 (0, 0))
  P : IntsAt wr w0.heap.size vP ps
  E : IntsAt wr w0.heap.size vE es
  d3 : Dis vP vE
theorem RTry.below {w0 : World} {b11 : Nat} {o : Int} {wr w' : World} {vP vE : Value} {ps es : List Int} (h : RTry w0 b11 o wr vP vE ps es) (hb : Below wr.heap.size wr w') : RTry w0 b11 o w' vP vE ps es :=
  ⟨h.bel.trans (hb.mono h.bel.size), blk_below h.r11 hb, h.P.below hb, h.E.below hb, h.d3⟩
theorem RTry.two {w0 : World} {b11 : Nat} {o o' : Int} {W0 W : World} {vP vE vP' vE' : Value} {ps es ps' es' : List Int} (h : RTry w0 b11 o W0 vP vE ps es)
    (ht : TwoRows w0.heap.size b11 24 W0 vP vE W #[.int .i64 0, .int .i64 o', vP', vE'] vP' vE' ps' es') : RTry w0 b11 o' W vP' vE' ps' es' :=
  ⟨h.bel.trans ht.below, ht.box, ht.P, ht.E, ht.dis⟩
end Go.Proofs.Ytfhekkoibmlmpaa.Hand

/- Contracts of layer 8, proved by hand: RiceBest. -/
namespace Go.Proofs.Ytfhekkoibmlmpaa.Hand
open Go.RowKit Go.Proofs.Ytfhekkoibmlmpaa.Q Go.Proofs.YtfhekkoibmlmpaaW.PrintWords Go.Proofs.YtfhekkoibmlmpaaW.PrintLast Go.Proofs.YtfhekkoibmlmpaaW.PrintMore
set_option linter.unusedVariables false
set_option linter.unusedSimpArgs false

theorem C_len {w : World} {A : Option Addr} {xs : List Int} (h : Kd.C (Kd.int .i64) w A xs.length xs) : xs.length ≤ 9223372036854775807 := h.2.1
end Go.Proofs.Ytfhekkoibmlmpaa.Hand

/- Contracts of layer 8, proved by hand: RiceBack. -/
namespace Go.Proofs.Ytfhekkoibmlmpaa.Hand
open Go.RowKit Go.Proofs.Ytfhekkoibmlmpaa.Q Go.Proofs.YtfhekkoibmlmpaaW.PrintWords Go.Proofs.YtfhekkoibmlmpaaW.PrintLast Go.Proofs.YtfhekkoibmlmpaaW.PrintMore
set_option linter.unusedVariables false
set_option linter.unusedSimpArgs false

theorem shortP_in {l : List Int} (h : shortP l) : ∀ x ∈ l, -9223372036854775808 ≤ x ∧ x ≤ 9223372036854775807 := fun x hx => by have := h.1 x hx; omega
end Go.Proofs.Ytfhekkoibmlmpaa.Hand

/- Contracts of layer 8, proved by hand: RiceEncodes. -/
namespace Go.Proofs.Ytfhekkoibmlmpaa.Hand
open Go.RowKit Go.Proofs.Ytfhekkoibmlmpaa.Q Go.Proofs.YtfhekkoibmlmpaaW.PrintWords Go.Proofs.YtfhekkoibmlmpaaW.PrintLast Go.Proofs.YtfhekkoibmlmpaaW.PrintMore
set_option linter.unusedVariables false
set_option linter.unusedSimpArgs false

/-- Both writers, one behind the other. -/
structure BW (w3 : World) (b : Nat) (W : World) (v vx : Value) (bs bx : List Bool) : Prop where
  w : WAt W b b v bs
  x : XW W b (b + 1) vx bx
  ap : Apart b v (b + 1) vx
  bel : Below b w3 W
theorem BW.below {w3 : World} {b : Nat} {W W' : World} {v vx : Value} {bs bx : List Bool} (h : BW w3 b W v vx bs bx) (hb : Below W.heap.size W W') : BW w3 b W' v vx bs bx :=
  ⟨h.w.below hb, h.x.below hb, h.ap, h.bel.trans (hb.mono (by have := h.w.lt; omega))⟩
end Go.Proofs.Ytfhekkoibmlmpaa.Hand

/- The plain law of layer 8: the best recipe has as many bits as it says, and none that is plain has fewer. -/
namespace Go.Proofs.Ytfhekkoibmlmpaa.Hand
open Go.RowKit Go.Proofs.Ytfhekkoibmlmpaa.Q Go.Proofs.YtfhekkoibmlmpaaW.PrintWords Go.Proofs.YtfhekkoibmlmpaaW.PrintLast Go.Proofs.YtfhekkoibmlmpaaW.PrintMore
set_option linter.unusedVariables false
set_option linter.unusedSimpArgs false

theorem riceB_length (x : Int) (K : Nat) : (riceB x K).length = foldN x / 2 ^ K + 1 + K := by
  unfold riceB
  rw [List.length_append, List.length_replicate, List.length_cons, nbits_length]
  omega
theorem body_cons (k e x : Int) (r : List Int) : bodyX k e (x :: r) = codeX k e x ++ bodyX k e r := by simp [bodyX]
theorem cst_body (K : Nat) : ∀ (l : List Int) (acc : Int), mayF l (K : Int) (-1) = true → cstR K l (acc + (l.length : Int) * (1 + (K : Int))) = acc + ((bodyX (K : Int) (-1) l).length : Int)
  | [], acc, h => by simp [cstR, bodyX]
  | x :: r, acc, h => by
    have h2 : mayOk (K : Int) (-1) x = true ∧ mayF r (K : Int) (-1) = true := by simpa [mayF] using h
    have h3 : foldN x / 2 ^ K ≤ 16777216 := by
      have := h2.1
      unfold mayOk at this
      rw [if_pos (by decide), Int.toNat_natCast] at this
      exact of_decide_eq_true this
    have ec : codeX (K : Int) (-1) x = riceB x K := by unfold codeX; rw [if_pos (by decide), Int.toNat_natCast]
    have ih := cst_body K r (acc + (1 + (K : Int)) + ((foldN x / 2 ^ K : Nat) : Int)) h2.2
    unfold cstR
    rw [if_neg (by omega), body_cons, ec, List.length_append, riceB_length, List.length_cons]
    have e : acc + ((r.length + 1 : Nat) : Int) * (1 + (K : Int)) + ((foldN x / 2 ^ K : Nat) : Int) = acc + (1 + (K : Int)) + ((foldN x / 2 ^ K : Nat) : Int) + (r.length : Int) * (1 + (K : Int)) := by
      rw [Int.natCast_add, Int.add_mul]
      simp
      omega
    rw [e, ih]
    omega
theorem cst_bad (K : Nat) : ∀ (l : List Int) (acc : Int), mayF l (K : Int) (-1) = false → cstR K l acc = -1
  | [], acc, h => by simp [mayF] at h
  | x :: r, acc, h => by
    unfold cstR
    by_cases hx : 16777216 < foldN x / 2 ^ K
    · rw [if_pos hx]
    · rw [if_neg hx]
      refine cst_bad K r _ ?_
      have h1 : mayOk (K : Int) (-1) x = true := by
        unfold mayOk
        rw [if_pos (by decide), Int.toNat_natCast]
        exact decide_eq_true (by omega)
      have h2 : (mayOk (K : Int) (-1) x && mayF r (K : Int) (-1)) = false := by simpa [mayF] using h
      rw [h1, Bool.true_and] at h2
      exact h2
theorem cost_good (l : List Int) (K : Nat) (hK : K ≤ 30) (h : mayF l (K : Int) (-1) = true) : costF l (K : Int) = ((bodyX (K : Int) (-1) l).length : Int) := by
  unfold costF
  rw [if_neg (by omega), Int.toNat_natCast]
  have := cst_body K l 0 h
  rw [Int.zero_add, Int.zero_add] at this
  exact this
theorem cost_bad (l : List Int) (K : Nat) (hK : K ≤ 30) (h : mayF l (K : Int) (-1) = false) : costF l (K : Int) = -1 := by
  unfold costF
  rw [if_neg (by omega), Int.toNat_natCast]
  exact cst_bad K l _ h
theorem lst_spec (l : List Int) : ∀ (d k : Nat) (b : Int × Int),
    (lstR l d k b = b ∨ ∃ j : Nat, k ≤ j ∧ j < k + d ∧ lstR l d k b = ((j : Int), costF l (j : Int)) ∧ 0 ≤ costF l (j : Int)) ∧
    (∀ j : Nat, k ≤ j → j < k + d → 0 ≤ costF l (j : Int) → 0 ≤ (lstR l d k b).2 ∧ (lstR l d k b).2 ≤ costF l (j : Int)) ∧ (0 ≤ b.2 → 0 ≤ (lstR l d k b).2 ∧ (lstR l d k b).2 ≤ b.2)
  | 0, k, b => ⟨.inl rfl, fun j h1 h2 => by omega, fun h => ⟨h, Int.le_refl _⟩⟩
  | d + 1, k, b => by
    unfold lstR
    by_cases hc : 0 ≤ costF l (k : Int) ∧ (b.2 < 0 ∨ costF l (k : Int) < b.2)
    · rw [if_pos hc]
      obtain ⟨h1, h2, h3⟩ := lst_spec l d (k + 1) ((k : Int), costF l (k : Int))
      have h4 := h3 hc.1
      simp only at h4
      refine ⟨.inr ?_, fun j hj1 hj2 hj3 => ?_, fun hb => ?_⟩
      · rcases h1 with e | ⟨j, e1, e2, e3, e4⟩
        · exact ⟨k, by omega, by omega, e, hc.1⟩
        · exact ⟨j, by omega, by omega, e3, e4⟩
      · by_cases hjk : j = k
        · subst hjk
          exact h4
        · exact h2 j (by omega) (by omega) hj3
      · exact ⟨h4.1, by omega⟩
    · rw [if_neg hc]
      obtain ⟨h1, h2, h3⟩ := lst_spec l d (k + 1) b
      refine ⟨?_, fun j hj1 hj2 hj3 => ?_, h3⟩
      · rcases h1 with e | ⟨j, e1, e2, e3, e4⟩
        · exact .inl e
        · exact .inr ⟨j, by omega, by omega, e3, e4⟩
      · by_cases hjk : j = k
        · subst hjk
          have hb : 0 ≤ b.2 := by omega
          have := h3 hb
          omega
        · exact h2 j (by omega) (by omega) hj3
theorem least_good (l : List Int) (h : 0 ≤ (leastF l).2) : ∃ j : Nat, j ≤ 14 ∧ (leastF l).1 = (j : Int) ∧ (leastF l).2 = costF l (j : Int) := by
  obtain ⟨h1, _, _⟩ := lst_spec l 15 0 (0, -1)
  rcases h1 with e | ⟨j, e1, e2, e3, e4⟩
  · have e' : leastF l = (0, -1) := e
    rw [e'] at h
    exact absurd h (by decide)
  · have e' : leastF l = ((j : Int), costF l (j : Int)) := e3
    exact ⟨j, by omega, by rw [e'], by rw [e']⟩
theorem least_le (l : List Int) (j : Nat) (hj : j ≤ 14) (h : 0 ≤ costF l (j : Int)) : 0 ≤ (leastF l).2 ∧ (leastF l).2 ≤ costF l (j : Int) := (lst_spec l 15 0 (0, -1)).2.1 j (by omega) (by omega) h
def sumN (f : Nat → Int) : Nat → Int
  | 0 => 0
  | m + 1 => sumN f m + f m
theorem sumN_le (f g : Nat → Int) : ∀ m, (∀ j, j < m → f j ≤ g j) → sumN f m ≤ sumN g m
  | 0, h => Int.le_refl _
  | m + 1, h => Int.add_le_add (sumN_le f g m (fun j hj => h j (by omega))) (h m (by omega))
theorem sumN_nonneg (f : Nat → Int) : ∀ m, (∀ j, j < m → 0 ≤ f j) → 0 ≤ sumN f m
  | 0, h => Int.le_refl _
  | m + 1, h => Int.add_nonneg (sumN_nonneg f m (fun j hj => h j (by omega))) (h m (by omega))
theorem sumN_eq (f g : Nat → Int) : ∀ m, (∀ j, j < m → f j = g j) → sumN f m = sumN g m
  | 0, h => rfl
  | m + 1, h => by unfold sumN; rw [sumN_eq f g m (fun j hj => h j (by omega)), h m (by omega)]
def costS (l : List Int) (n order : Nat) (j : Nat) : Int := 4 + (leastF (partL l n order j)).2
def parS (l : List Int) (n order N : Nat) : List Int := (List.range N).map fun j => (leastF (partL l n order j)).1
theorem parS_snoc (l : List Int) (n order N : Nat) : parS l n order (N + 1) = parS l n order N ++ [(leastF (partL l n order N)).1] := by simp [parS, List.range_succ]
theorem tryL_spec (l : List Int) (n order N : Nat) : ∀ (d i : Nat), i + d = N →
    ((∀ j, i ≤ j → j < N → 0 ≤ (leastF (partL l n order j)).2) → tryL l n order d i (6 + sumN (costS l n order) i) (parS l n order i) (List.replicate i (-1)) = some (6 + sumN (costS l n order) N, parS l n order N, List.replicate N (-1))) ∧
    (¬ (∀ j, i ≤ j → j < N → 0 ≤ (leastF (partL l n order j)).2) → tryL l n order d i (6 + sumN (costS l n order) i) (parS l n order i) (List.replicate i (-1)) = none)
  | 0, i, hi => by
    have e : i = N := by omega
    subst e
    exact ⟨fun _ => rfl, fun h => absurd (fun j h1 h2 => by omega) h⟩
  | d + 1, i, hi => by
    have ih := tryL_spec l n order N d (i + 1) (by omega)
    have e1 : 6 + sumN (costS l n order) i + (4 + (leastF (partL l n order i)).2) = 6 + sumN (costS l n order) (i + 1) := by
      show 6 + sumN (costS l n order) i + (4 + (leastF (partL l n order i)).2) = 6 + (sumN (costS l n order) i + (4 + (leastF (partL l n order i)).2))
      omega
    have e2 : parS l n order i ++ [(leastF (partL l n order i)).1] = parS l n order (i + 1) := (parS_snoc l n order i).symm
    have e3 : List.replicate i (-1 : Int) ++ [-1] = List.replicate (i + 1) (-1) := by rw [List.replicate_succ']
    unfold tryL
    rw [e1, e2, e3]
    by_cases hc : (leastF (partL l n order i)).2 < 0
    · rw [if_pos hc]
      exact ⟨fun h => absurd (h i (Nat.le_refl _) (by omega)) (by omega), fun _ => rfl⟩
    · rw [if_neg hc]
      refine ⟨fun h => ih.1 (fun j h1 h2 => h j (by omega) h2), fun h => ih.2 (fun h' => h (fun j h1 h2 => ?_))⟩
      by_cases e : j = i
      · subst e
        omega
      · exact h' j (by omega) h2
/-- The bits of a recipe without escapes. -/
theorem bits_plain (o block order : Int) (ps es l : List Int) (h : canE 0 o ps es block order l) (he : ∀ i : Nat, i < es.length → rd es (i : Int) = -1) :
    ((bitsE 0 o ps es block order l).length : Int) = 6 + sumN (fun j => 4 + costF (partL l (block / 2 ^ o.toNat).toNat order.toNat j) (rd ps (j : Int))) (2 ^ o.toNat) := by
  obtain ⟨hck, hlen, hall⟩ := h
  have hps := hck.2.1
  have hes := hck.2.2.1
  have key : ∀ m, m ≤ ps.length → ((partsX 4 (block / 2 ^ o.toNat).toNat order.toNat ps es l m).length : Int) = sumN (fun j => 4 + costF (partL l (block / 2 ^ o.toNat).toNat order.toNat j) (rd ps (j : Int))) m := by
    intro m
    induction m with
    | zero => intro _; rfl
    | succ m ih =>
      intro hm
      have hi := ih (by omega)
      have hok := hck.2.2.2 m (by omega)
      have hmay := allMay_at hall m (by omega)
      rw [he m (by omega)] at hmay hok
      obtain ⟨k0, k1, _⟩ := hok
      rw [if_neg (by decide)] at k1
      obtain ⟨K, hK⟩ := Int.eq_ofNat_of_zero_le k0
      rw [partsX_snoc, List.length_append]
      unfold partX
      rw [he m (by omega), List.length_append]
      rw [hK] at hmay k1 ⊢
      have hc := cost_good _ K (by omega) hmay
      unfold sumN
      rw [← hi, hK, hc]
      have hh : (headX 4 (K : Int) (-1)).length = 4 := by unfold headX; rw [if_pos (by decide), nbits_length]
      rw [hh]
      omega
  unfold bitsE
  rw [List.length_append, List.length_append, nbits_length, nbits_length]
  have := key ps.length (Nat.le_refl _)
  rw [hps] at this
  have e4 : 4 + (0 : Int).toNat = 4 := rfl
  rw [e4, hps]
  omega
theorem best_spec (block order : Int) (l : List Int) : ∀ (d o : Nat) (b : Int × List Int × List Int × Int),
    (bestL block order l d o b = b ∨ ∃ (j : Nat) (n : Int) (ps es : List Int), o ≤ j ∧ j < o + d ∧ tryF block order l (j : Int) = some (n, ps, es) ∧ 0 ≤ n ∧ bestL block order l d o b = ((j : Int), ps, es, n)) ∧
    (∀ (j : Nat) (n : Int) (ps es : List Int), o ≤ j → j < o + d → tryF block order l (j : Int) = some (n, ps, es) → 0 ≤ n → 0 ≤ (bestL block order l d o b).2.2.2 ∧ (bestL block order l d o b).2.2.2 ≤ n) ∧
    (0 ≤ b.2.2.2 → 0 ≤ (bestL block order l d o b).2.2.2 ∧ (bestL block order l d o b).2.2.2 ≤ b.2.2.2)
  | 0, o, b => ⟨.inl rfl, fun j n ps es h1 h2 => by omega, fun h => ⟨h, Int.le_refl _⟩⟩
  | d + 1, o, b => by
    unfold bestL
    cases hT : tryF block order l (o : Int) with
    | none =>
      obtain ⟨h1, h2, h3⟩ := best_spec block order l d (o + 1) (betterF b (o : Int) none)
      refine ⟨?_, fun j n ps es hj1 hj2 hj3 hj4 => ?_, h3⟩
      · rcases h1 with e | ⟨j, n, ps, es, e1, e2, e3⟩
        · exact .inl e
        · exact .inr ⟨j, n, ps, es, by omega, by omega, e3⟩
      · by_cases hjo : j = o
        · subst hjo
          rw [hT] at hj3
          cases hj3
        · exact h2 j n ps es (by omega) (by omega) hj3 hj4
    | some T =>
      obtain ⟨n, ps, es⟩ := T
      obtain ⟨h1, h2, h3⟩ := best_spec block order l d (o + 1) (betterF b (o : Int) (some (n, ps, es)))
      obtain ⟨bo, bp, be, bn⟩ := b
      by_cases hc : 0 ≤ n ∧ (bn < 0 ∨ n < bn)
      · rw [better_take hc] at h1 h2 h3 ⊢
        have h4 := h3 hc.1
        simp only at h4 ⊢
        refine ⟨.inr ?_, fun j n' ps' es' hj1 hj2 hj3 hj4 => ?_, fun hb => ⟨h4.1, by omega⟩⟩
        · rcases h1 with e | ⟨j, n', ps', es', e1, e2, e3⟩
          · exact ⟨o, n, ps, es, by omega, by omega, hT, hc.1, e⟩
          · exact ⟨j, n', ps', es', by omega, by omega, e3⟩
        · by_cases hjo : j = o
          · subst hjo
            rw [hT] at hj3
            injection hj3 with hj3
            injection hj3 with e1 e2
            subst e1
            exact h4
          · exact h2 j n' ps' es' (by omega) (by omega) hj3 hj4
      · rw [better_keep hc] at h1 h2 h3 ⊢
        simp only at h3 ⊢
        refine ⟨?_, fun j n' ps' es' hj1 hj2 hj3 hj4 => ?_, h3⟩
        · rcases h1 with e | ⟨j, n', ps', es', e1, e2, e3⟩
          · exact .inl e
          · exact .inr ⟨j, n', ps', es', by omega, by omega, e3⟩
        · by_cases hjo : j = o
          · subst hjo
            rw [hT] at hj3
            injection hj3 with hj3
            injection hj3 with e1 e2
            subst e1
            have := h3 (by omega)
            omega
          · exact h2 j n' ps' es' (by omega) (by omega) hj3 hj4
theorem parS_rd (l : List Int) (n order N j : Nat) (h : j < N) : rd (parS l n order N) (j : Int) = (leastF (partL l n order j)).1 := by
  simp [rd, parS, List.getD_eq_getElem?_getD, h]
theorem rep_rd (N j : Nat) (h : j < N) : rd (List.replicate N (-1)) (j : Int) = -1 := by
  simp [rd, List.getD_eq_getElem?_getD, h]
/-- What try gives, where the shape may be. -/
theorem tryF_spec (o block order : Int) (l : List Int) (hsh : shapeP 0 o block order) (hlen : (l.length : Int) = block - order) :
    ((∀ j, j < 2 ^ o.toNat → 0 ≤ (leastF (partL l (block / 2 ^ o.toNat).toNat order.toNat j)).2) → tryF block order l o = some (6 + sumN (costS l (block / 2 ^ o.toNat).toNat order.toNat) (2 ^ o.toNat), parS l (block / 2 ^ o.toNat).toNat order.toNat (2 ^ o.toNat), List.replicate (2 ^ o.toNat) (-1))) ∧
    (¬ (∀ j, j < 2 ^ o.toNat → 0 ≤ (leastF (partL l (block / 2 ^ o.toNat).toNat order.toNat j)).2) → tryF block order l o = none) := by
  have e : tryF block order l o = tryL l (block / 2 ^ o.toNat).toNat order.toNat (2 ^ o.toNat) 0 6 [] [] := if_pos ⟨hsh, hlen⟩
  rw [e]
  obtain ⟨h1, h2⟩ := tryL_spec l (block / 2 ^ o.toNat).toNat order.toNat (2 ^ o.toNat) (2 ^ o.toNat) 0 (by omega)
  have e6 : 6 + sumN (costS l (block / 2 ^ o.toNat).toNat order.toNat) 0 = 6 := rfl
  rw [e6] at h1 h2
  exact ⟨fun h => h1 (fun j _ hj => h j hj), fun h => h2 (fun h' => h (fun j hj => h' j (Nat.zero_le _) hj))⟩
/-- A recipe that try gives may be written, and has as many bits as it says. -/
theorem tryF_can (o block order : Int) (l : List Int) (n : Int) (ps es : List Int) (h : tryF block order l o = some (n, ps, es)) : canE 0 o ps es block order l ∧ ((bitsE 0 o ps es block order l).length : Int) = n := by
  by_cases hs : shapeP 0 o block order ∧ (l.length : Int) = block - order
  · obtain ⟨hsh, hlen⟩ := hs
    obtain ⟨h1, h2⟩ := tryF_spec o block order l hsh hlen
    by_cases hall : ∀ j, j < 2 ^ o.toNat → 0 ≤ (leastF (partL l (block / 2 ^ o.toNat).toNat order.toNat j)).2
    · rw [h1 hall] at h
      injection h with h
      injection h with e1 h
      injection h with e2 e3
      subst e1 e2 e3
      have hN : (parS l (block / 2 ^ o.toNat).toNat order.toNat (2 ^ o.toNat)).length = 2 ^ o.toNat := by simp [parS]
      have hM : (List.replicate (2 ^ o.toNat) (-1 : Int)).length = 2 ^ o.toNat := by simp
      have hk : ∀ j : Nat, j < 2 ^ o.toNat → ∃ K : Nat, K ≤ 14 ∧ rd (parS l (block / 2 ^ o.toNat).toNat order.toNat (2 ^ o.toNat)) (j : Int) = (K : Int) ∧ (leastF (partL l (block / 2 ^ o.toNat).toNat order.toNat j)).2 = costF (partL l (block / 2 ^ o.toNat).toNat order.toNat j) (K : Int) ∧ mayF (partL l (block / 2 ^ o.toNat).toNat order.toNat j) (K : Int) (-1) = true := fun j hj => by
        obtain ⟨K, k1, k2, k3⟩ := least_good _ (hall j hj)
        refine ⟨K, k1, by rw [parS_rd _ _ _ _ _ hj]; exact k2, k3, ?_⟩
        cases hm : mayF (partL l (block / 2 ^ o.toNat).toNat order.toNat j) (K : Int) (-1) with
        | true => rfl
        | false =>
          have hb := cost_bad _ K (by omega) hm
          have := hall j hj
          omega
      have hcan : canE 0 o (parS l (block / 2 ^ o.toNat).toNat order.toNat (2 ^ o.toNat)) (List.replicate (2 ^ o.toNat) (-1)) block order l := by
        refine ⟨⟨hsh, hN, hM, fun i hi => ?_⟩, hlen, ?_⟩
        · rw [hN] at hi
          obtain ⟨K, k1, k2, k3, k4⟩ := hk i hi
          rw [k2, rep_rd _ _ hi]
          exact ⟨by omega, by rw [if_neg (by decide)]; omega, by omega, by omega, fun h => absurd h (by decide)⟩
        · unfold allMay
          rw [List.all_eq_true]
          intro i hi
          rw [List.mem_range, hN] at hi
          obtain ⟨K, k1, k2, k3, k4⟩ := hk i hi
          rw [k2, rep_rd _ _ hi]
          exact k4
      refine ⟨hcan, ?_⟩
      rw [bits_plain o block order _ _ l hcan (fun i hi => rep_rd _ _ (by rw [hM] at hi; exact hi))]
      congr 1
      refine sumN_eq _ _ _ (fun j hj => ?_)
      obtain ⟨K, k1, k2, k3, k4⟩ := hk j hj
      show 4 + costF _ (rd _ (j : Int)) = 4 + (leastF _).2
      rw [k2, k3]
    · rw [h2 hall] at h
      cases h
  · rw [show tryF block order l o = none from if_neg hs] at h
    cases h
/-- No plain recipe has fewer bits than try's. -/
theorem tryF_least (o block order : Int) (l ps es : List Int) (h : canE 0 o ps es block order l) (he : ∀ i : Nat, i < es.length → rd es (i : Int) = -1) :
    ∃ n ps' es', tryF block order l o = some (n, ps', es') ∧ 0 ≤ n ∧ n ≤ ((bitsE 0 o ps es block order l).length : Int) := by
  have hb := bits_plain o block order ps es l h he
  obtain ⟨hck, hlen, hall⟩ := h
  have hps := hck.2.1
  have hes := hck.2.2.1
  have hj : ∀ j : Nat, j < 2 ^ o.toNat → 0 ≤ (leastF (partL l (block / 2 ^ o.toNat).toNat order.toNat j)).2 ∧ (leastF (partL l (block / 2 ^ o.toNat).toNat order.toNat j)).2 ≤ costF (partL l (block / 2 ^ o.toNat).toNat order.toNat j) (rd ps (j : Int)) := fun j hj => by
    have hok := hck.2.2.2 j (by omega)
    have hmay := allMay_at hall j (by omega)
    rw [he j (by omega)] at hmay hok
    obtain ⟨k0, k1, _⟩ := hok
    rw [if_neg (by decide)] at k1
    obtain ⟨K, hK⟩ := Int.eq_ofNat_of_zero_le k0
    rw [hK] at hmay k1 ⊢
    have hc := cost_good _ K (by omega) hmay
    exact least_le _ K (by omega) (by rw [hc]; omega)
  refine ⟨_, _, _, (tryF_spec o block order l hck.1 hlen).1 (fun j h => (hj j h).1), ?_, ?_⟩
  · have := sumN_nonneg (costS l (block / 2 ^ o.toNat).toNat order.toNat) (2 ^ o.toNat) (fun j h => by
      have := (hj j h).1
      unfold costS
      omega)
    omega
  · rw [hb]
    have := sumN_le (costS l (block / 2 ^ o.toNat).toNat order.toNat) (fun j => 4 + costF (partL l (block / 2 ^ o.toNat).toNat order.toNat j) (rd ps (j : Int))) (2 ^ o.toNat) (fun j h => by
      have := (hj j h).2
      unfold costS
      omega)
    omega
theorem best_none (block order : Int) (l : List Int) (h : (bestF block order l).2.2.2 < 0) : bestF block order l = (0, [], [], -1) := by
  obtain ⟨h1, _, _⟩ := best_spec block order l 5 0 (0, [], [], -1)
  rcases h1 with e | ⟨j, n, ps, es, e1, e2, e3, e4, e5⟩
  · exact e
  · have e' : bestF block order l = ((j : Int), ps, es, n) := e5
    rw [e'] at h
    simp only at h
    omega
theorem best_can (block order : Int) (l : List Int) (h : ¬ (bestF block order l).2.2.2 < 0) : canE 0 (bestF block order l).1 (bestF block order l).2.1 (bestF block order l).2.2.1 block order l ∧
    ((bitsE 0 (bestF block order l).1 (bestF block order l).2.1 (bestF block order l).2.2.1 block order l).length : Int) = (bestF block order l).2.2.2 := by
  obtain ⟨h1, _, _⟩ := best_spec block order l 5 0 (0, [], [], -1)
  rcases h1 with e | ⟨j, n, ps, es, e1, e2, e3, e4, e5⟩
  · have e' : bestF block order l = (0, [], [], -1) := e
    rw [e'] at h
    exact absurd (by decide) h
  · have e' : bestF block order l = ((j : Int), ps, es, n) := e5
    rw [e']
    exact tryF_can _ _ _ _ _ _ _ e3
theorem best_least (o block order : Int) (l ps es : List Int) (h : canE 0 o ps es block order l) (ho : o ≤ 4) (he : ∀ i : Nat, i < es.length → rd es (i : Int) = -1) :
    (bestF block order l).2.2.2 ≤ ((bitsE 0 o ps es block order l).length : Int) := by
  obtain ⟨n, ps', es', h1, h2, h3⟩ := tryF_least o block order l ps es h he
  have ho0 : 0 ≤ o := h.1.1.2.1
  obtain ⟨O, rfl⟩ := Int.eq_ofNat_of_zero_le ho0
  obtain ⟨_, h4, _⟩ := best_spec block order l 5 0 (0, [], [], -1)
  have h5 := (h4 O n ps' es' (by omega) (by omega) h1 h2).2
  have h6 : (bestF block order l).2.2.2 ≤ n := h5
  omega
end Go.Proofs.Ytfhekkoibmlmpaa.Hand

/- Contracts of layer 8, proved by hand: RiceLeast. -/
namespace Go.Proofs.Ytfhekkoibmlmpaa.Hand
open Go.RowKit Go.Proofs.Ytfhekkoibmlmpaa.Q Go.Proofs.YtfhekkoibmlmpaaW.PrintWords Go.Proofs.YtfhekkoibmlmpaaW.PrintLast Go.Proofs.YtfhekkoibmlmpaaW.PrintMore
set_option linter.unusedVariables false
set_option linter.unusedSimpArgs false

/-- Is a recipe plain, as far as its first escapes tell. -/
def plainP (m o : Int) (es : List Int) (i : Nat) : Prop := m = 0 ∧ o ≤ 4 ∧ ∀ j : Nat, j < i → rd es (j : Int) = -1
theorem plainP_step {m o : Int} {es : List Int} {i : Nat} : plainP m o es (i + 1) ↔ plainP m o es i ∧ rd es (i : Int) = -1 := by
  unfold plainP
  constructor
  · exact fun h => ⟨⟨h.1, h.2.1, fun j hj => h.2.2 j (by omega)⟩, h.2.2 i (by omega)⟩
  · exact fun h => ⟨h.1.1, h.1.2.1, fun j hj => by
      by_cases e : j = i
      · rw [e]; exact h.2
      · exact h.1.2.2 j (by omega)⟩
set_option maxHeartbeats 16000000 in
set_option maxRecDepth 100000 in
theorem LeastLaw_any (m o n0 n1 : Int) (ps es l : List Int) (AP AE A : Option Addr) (cP cE c : Nat) (w : World) (m0 : -9223372036854775808 ≤ m) (m1 : m ≤ 9223372036854775807) (hP : Kd.C (Kd.int .i64) w AP ps.length ps) (hcP : ps.length ≤ cP) (hE : Kd.C (Kd.int .i64) w AE es.length es) (hcE : es.length ≤ cE)
    (hA : Kd.C (Kd.int .i64) w A l.length l) (hc : l.length ≤ c) :
    Calls Try.prog 7 #[.agg #[.int .i64 m, .int .i64 o, .slice AP ps.length cP, .slice AE es.length cE], .agg #[.int .i64 n0, .int .i64 n1], .slice A l.length c] w fun e w' => e = .returned (.bool true) ∧ Below w.heap.size w w' := by
  have hup := Try.underlying28
  have hup2 := Try.underlying45
  have hbel := below_alloc (below_alloc (Below.refl w.heap.size w) (.cells #[.int .i64 m, .int .i64 o, .slice AP ps.length cP, .slice AE es.length cE] 24 (0, 0))) (.cells #[.int .i64 n0, .int .i64 n1] 25 (0, 0))
  have hz : ((w.alloc (.cells #[.int .i64 m, .int .i64 o, .slice AP ps.length cP, .slice AE es.length cE] 24 (0, 0))).alloc (.cells #[.int .i64 n0, .int .i64 n1] 25 (0, 0))).heap[w.heap.size]? = some (.cells #[.int .i64 m, .int .i64 o, .slice AP ps.length cP, .slice AE es.length cE] 24 (0, 0)) := blk_alloc (blk_new w _) _
  have hx : ((w.alloc (.cells #[.int .i64 m, .int .i64 o, .slice AP ps.length cP, .slice AE es.length cE] 24 (0, 0))).alloc (.cells #[.int .i64 n0, .int .i64 n1] 25 (0, 0))).heap[w.heap.size + 1]? = some (.cells #[.int .i64 n0, .int .i64 n1] 25 (0, 0)) := by simpa using blk_new (w.alloc (.cells #[.int .i64 m, .int .i64 o, .slice AP ps.length cP, .slice AE es.length cE] 24 (0, 0))) (.cells #[.int .i64 n0, .int .i64 n1] 25 (0, 0))
  have HSH : Aside0 (∀ W, Below w.heap.size w W → Calls Try.prog 8 #[.slice A l.length c] W fun e w' => e = .returned (.bool (decide (shortP l))) ∧ Drawn0 W w') := ⟨fun W hW => short_any l (C_len hA) A c W (Kd.C_below hA hW) hc⟩
  have HA := Aside0.mk hA
  have HP := Aside0.mk hP
  have HE := Aside0.mk hE
  have HZ1 := Aside0.mk hz
  have HX1 := Aside0.mk hx
  have HB1 := Aside0.mk hbel
  clear hbel hz hx hA hP hE
  by_cases hs : shortP l
  · rw [decide_eq_true hs] at HSH
    have HS := Aside0.mk hs
    clear hs
    go_enter Try.func7, Try.ntmps7
    go_wp2_with fail
    with_reducible refine (HSH.out _ HB1.out).mono ?_
    rintro e w3 ⟨rfl, hd3⟩
    have HZ3 := Aside0.mk (blk_below HZ1.out hd3.below)
    have HX3 := Aside0.mk (blk_below HX1.out hd3.below)
    have HB3 : Aside0 (Below w.heap.size w w3) := ⟨HB1.out.trans (hd3.below.mono HB1.out.size)⟩
    have HP3 := Aside0.mk (Kd.C_below HP.out HB3.out)
    have HE3 := Aside0.mk (Kd.C_below HE.out HB3.out)
    have HA3 := Aside0.mk (Kd.C_below HA.out HB3.out)
    clear hd3 HB1 HZ1 HX1 HSH HA HP HE
    have d0 := blk_cell HX3.out 0
    have d1 := blk_cell HX3.out 1
    have HBE := Aside0.mk (Best_any n0 n1 l A c w3 hc HA3.out (shortP_in HS.out))
    have HNB := Aside0.mk (best_none n0 n1 l)
    have HCB := Aside0.mk (best_can n0 n1 l)
    have HLB : Aside0 (∀ o', canE 0 o' ps es n0 n1 l → o' ≤ 4 → (∀ i : Nat, i < es.length → rd es (i : Int) = -1) → (bestF n0 n1 l).2.2.2 ≤ ((bitsE 0 o' ps es n0 n1 l).length : Int)) := ⟨fun o' h1 h2 h3 => best_least o' n0 n1 l ps es h1 h2 h3⟩
    generalize bestF n0 n1 l = X at HBE HNB HCB HLB
    go_wp2_with fail
    with_reducible refine HBE.out.mono ?_
    rintro e w4 ⟨vP, vE, rfl, hP, hE, hb⟩
    obtain ⟨AQ, cQ, rfl, hcQ, hCQ⟩ := hP.C
    obtain ⟨AR, cR, rfl, hcR, hCR⟩ := hE.C
    have HN := Aside0.mk (blk_new w4 (.cells zRice 24 (0, 0)))
    have hbN := below_setRow (below_alloc (Below.refl w4.heap.size w4) (.cells zRice 24 (0, 0))) (Nat.le_refl _) #[.int .i64 0, .int .i64 X.1, .slice AQ X.2.1.length cQ, .slice AR X.2.2.1.length cR]
    have HQ5 := Aside0.mk (setRow_heap _ _ _ #[.int .i64 0, .int .i64 X.1, .slice AQ X.2.1.length cQ, .slice AR X.2.2.1.length cR] _ _ HN.out)
    have HCQ5 := Aside0.mk (Kd.C_below hCQ hbN)
    have HCR5 := Aside0.mk (Kd.C_below hCR hbN)
    have hb35 := hb.trans (hbN.mono hb.size)
    have HZ5 := Aside0.mk (blk_below HZ3.out hb35)
    have HX5 := Aside0.mk (blk_below HX3.out hb35)
    have HP5 := Aside0.mk (Kd.C_below HP3.out hb35)
    have HE5 := Aside0.mk (Kd.C_below HE3.out hb35)
    have HA5 := Aside0.mk (Kd.C_below HA3.out hb35)
    have HB5 := Aside0.mk (HB3.out.trans (hb35.mono HB3.out.size))
    clear hb hP hE hCQ hCR hbN hb35 HBE HZ3 HX3 HP3 HE3 HA3 HB3 d0 d1
    go_upto_region 4 with ((with_reducible refine wpList_store_row ?_ 24 (.tmp 7) (.tmp 24) ?_ (w4.heap.size) (#[.int .i64 0, .int .i64 X.1, .slice AQ X.2.1.length cQ, .slice AR X.2.2.1.length cR]) ?_ ?_ 24 (zRice) (HN.out) (rc_info _ _ _ _) ?_ (rc_one _ _ _ _ _ _ _ _) ?_); rfl; rfl; rfl; rfl; rfl)
    generalize (w4.alloc (.cells zRice 24 (0, 0))).setRow w4.heap.size #[.int .i64 0, .int .i64 X.1, .slice AQ X.2.1.length cQ, .slice AR X.2.2.1.length cR] = w5 at *
    generalize w4.heap.size = g4 at *
    clear HN
    have hw6 := new_at w5 w5.heap.size (Nat.le_refl _)
    have hb6 := below_alloc (Below.refl w5.heap.size w5) (.cells #[.int .i64 0, .slice none 0 0] 64)
    have s6 : (w5.alloc (.cells #[.int .i64 0, .slice none 0 0] 64)).heap.size = w5.heap.size + 1 := by simp
    go_wp2_with fail
    refine (New_any _).mono ?_
    rintro e w6 ⟨rfl, rfl⟩
    generalize w5.alloc (.cells #[.int .i64 0, .slice none 0 0] 64) = w6 at hw6 hb6 s6 ⊢
    have hw7 := new_at w6 w5.heap.size (by omega)
    have hb7 := below_alloc (Below.refl w6.heap.size w6) (.cells #[.int .i64 0, .slice none 0 0] 64)
    rw [s6] at hw7
    have hw67 := hw6.below hb7
    have h57 : Below w5.heap.size w5 (w6.alloc (.cells #[.int .i64 0, .slice none 0 0] 64)) := hb6.trans (hb7.mono (by omega))
    go_wp2_with fail
    refine (New_any _).mono ?_
    rintro e w7 ⟨rfl, rfl⟩
    try rw [s6]
    generalize w6.alloc (.cells #[.int .i64 0, .slice none 0 0] 64) = w7 at hw7 hb7 hw67 h57 ⊢
    have HW7 := Aside0.mk hw67
    have HV7 := Aside0.mk hw7
    have HB57 := Aside0.mk h57
    have HB7 := Aside0.mk (HB5.out.trans (h57.mono HB5.out.size))
    have HSZ := Aside0.mk HB5.out.size
    have hq7 := blk_below HQ5.out h57
    have hx7 := blk_below HX5.out h57
    have HQ7 := Aside0.mk hq7
    have HX7 := Aside0.mk hx7
    clear hw6 hb6 s6 hw7 hb7 hw67 h57 hq7 hx7
    by_cases hneg : X.2.2.2 < 0
    · have hX := HNB.out (by first | exact hneg | omega)
      subst hX
      have c2 := blk_cell HQ7.out 2
      have HBL := HB7
      clear hneg
      have hcz : AQ = AQ := rfl
      try simp only at c2
      go_wp2_with fail
      with_reducible refine (awake_any _).mono ?_
      rintro e w20 ⟨rfl, hb20⟩
      have HB20 := Aside0.mk (HBL.out.trans (hb20.mono HBL.out.size))
      clear hb20
      go_wp2
      go_ret
      exact ⟨rfl, HB20.out⟩
    · obtain ⟨hcan, hlen⟩ := HCB.out (by first | exact hneg | omega)
      have hno : ∀ k, (Value.slice none 0 0).ownBlock = some k → w5.heap.size ≤ k := fun k hk => by simp [Value.ownBlock] at hk
      have hen := Encode_any 0 X.1 n0 n1 AQ AR A cQ cR c X.2.1 X.2.2.1 l [] w5.heap.size w5.heap.size (.slice none 0 0) w7 (by decide) (by decide) (shortP_in HS.out) hcQ hcR hc HW7.out (ListAt.elder HCQ5.out HB57.out (Nat.le_refl _) hno) (ListAt.elder HCR5.out HB57.out (Nat.le_refl _) hno) (ListAt.elder HA5.out HB57.out (Nat.le_refl _) hno) (by simp)
      rw [if_pos hcan, if_pos hcan, List.nil_append] at hen
      have HEN := Aside0.mk hen
      have HBL0 := Aside0.mk hlen
      have hn0' : ¬ X.2.2.2 < 0 := hneg
      clear hen hcan hlen hno hneg
      obtain ⟨bq, hbq⟩ : ∃ bq, bitsE 0 X.1 X.2.1 X.2.2.1 n0 n1 l = bq := ⟨_, rfl⟩
      rw [hbq] at HEN HBL0
      clear hbq
      have c0 := blk_cell HQ7.out 0
      have c1 := blk_cell HQ7.out 1
      have c2 := blk_cell HQ7.out 2
      have c3 := blk_cell HQ7.out 3
      have d0 := blk_cell HX7.out 0
      have d1 := blk_cell HX7.out 1
      go_wp2_with fail
      with_reducible refine HEN.out.mono ?_
      rintro e w8 ⟨rfl, v8, hw8, hm8⟩
      have hap : Apart w5.heap.size (.slice none 0 0) (w5.heap.size + 1) (.slice none 0 0) := ⟨by omega, by simp [Value.ownBlock], by simp [Value.ownBlock], by simp [Value.ownBlock]⟩
      have HV8 : Aside0 (WAt w8 w5.heap.size (w5.heap.size + 1) (.slice none 0 0) []) := ⟨⟨hap.block hm8 HV7.out.1, BytesAt.nil _ _, HV7.out.2.2⟩⟩
      have HB58 := Aside0.mk (HB57.out.trans hm8.below)
      have HLE := Aside0.mk (Len_any bq _ _ v8 w8 hw8)
      have hls : ((bq.length : Int) != X.2.2.2) = false := by rw [HBL0.out]; simp
      have HZ8 := Aside0.mk (blk_below HZ5.out HB58.out)
      have HX8 := Aside0.mk (blk_below HX5.out HB58.out)
      clear hw8 hm8 hap HEN HV7 HW7 HQ7 HX7 HB57 HB7 c0 c1 c2 c3 d0 d1
      go_wp2_with fail
      with_reducible refine HLE.out.mono ?_
      rintro e w9 ⟨rfl, rfl⟩
      clear HLE
      have e0 := blk_cell HZ8.out 0
      have e1 := blk_cell HZ8.out 1
      have e3 := blk_cell HZ8.out 3
      have h3 : ((m == 0) = false ∧ (false = true ↔ plainP m o es 0)) ∨ ((m == 0) = true ∧ decide (o ≤ 4) = true ∧ (true = true ↔ plainP m o es 0)) ∨ ((m == 0) = true ∧ decide (o ≤ 4) = false ∧ (false = true ↔ plainP m o es 0)) := by
        by_cases h1 : m = 0
        · by_cases h2 : o ≤ 4
          · exact .inr (.inl ⟨beq_iff_eq.mpr h1, decide_eq_true h2, ⟨fun _ => ⟨h1, h2, fun j hj => by omega⟩, fun _ => rfl⟩⟩)
          · exact .inr (.inr ⟨beq_iff_eq.mpr h1, decide_eq_false h2, ⟨fun h => (by cases h), fun h => absurd h.2.1 h2⟩⟩)
        · exact .inl ⟨beq_eq_false_iff_ne.mpr h1, ⟨fun h => (by cases h), fun h => absurd h.1 h1⟩⟩
      have HFA : Aside0 (∀ W, Below w8.heap.size w8 W → WAt W w5.heap.size (w5.heap.size + 1) (.slice none 0 0) [] ∧ W.heap[w.heap.size]? = some (.cells #[.int .i64 m, .int .i64 o, .slice AP ps.length cP, .slice AE es.length cE] 24 (0, 0)) ∧ W.heap[w.heap.size + 1]? = some (.cells #[.int .i64 n0, .int .i64 n1] 25 (0, 0)) ∧ Below w5.heap.size w5 W ∧ Below w.heap.size w W) := ⟨fun W hW => by
        have h5 := HB58.out.trans (hW.mono HB58.out.size)
        exact ⟨HV8.out.below hW, blk_below HZ8.out hW, blk_below HX8.out hW, h5, HB5.out.trans (h5.mono HSZ.out)⟩⟩
      have HBQ : Aside0 (canE 0 o ps es n0 n1 l → o ≤ 4 → (∀ i : Nat, i < es.length → rd es (i : Int) = -1) → X.2.2.2 ≤ ((bitsE 0 o ps es n0 n1 l).length : Int)) := ⟨fun h1 h2 h4 => HLB.out o h1 h2 h4⟩
      have hel := C_len HE5.out
      clear HLB HCB HNB HQ5 HCQ5 HCR5 HZ5 HX5 HB58 HV8 HZ8 HX8 HBL0 hcQ hcR
      obtain ⟨nx, hnx⟩ : ∃ nx, X.2.2.2 = nx := ⟨_, rfl⟩
      rw [hnx] at HBQ hn0' hls ⊢
      rcases h3 with ⟨hm0, hpb⟩ | ⟨hm0, ho4, hpb⟩ | ⟨hm0, ho4, hpb⟩
      all_goals
        have HPB := Aside0.mk hpb
        clear hpb
        go_wp2
        go_loopw [11, 12] (fun pv iv wr => ∃ (i : Nat) (pb : Bool), i ≤ es.length ∧ iv = .int .i64 i ∧ pv = .bool pb ∧ Aside0 (pb = true ↔ plainP m o es i) ∧ Aside0 (Below w8.heap.size w8 wr)) (fun _ iv _ => es.length - (intOf iv).toNat)
        case atStart => exact ⟨0, _, by omega, rfl, rfl, ⟨by have := HPB.out; simpa using this⟩, ⟨Below.refl _ _⟩⟩
        case round =>
          clear HPB e0 e1 e3
          obtain ⟨i, pb, hi, rfl, rfl, HPB, HBR⟩ := hrel
          obtain ⟨f1, f2, f3, f4, f5⟩ := HFA.out wr HBR.out
          have e0 := blk_cell f2 0
          have e1 := blk_cell f2 1
          have e2 := blk_cell f2 2
          have e3 := blk_cell f2 3
          have d0 := blk_cell f3 0
          have d1 := blk_cell f3 1
          by_cases hlt : i < es.length
          · have i0 : (0 : Int) ≤ (i : Int) := by omega
            have i1 : (i : Int) < (es.length : Int) := by omega
            obtain ⟨adE, rfl, hxE⟩ := C_cell (Kd.C_below HE5.out f4) i hlt
            have HST := Aside0.mk (plainP_step (m := m) (o := o) (es := es) (i := i))
            generalize rd es (i : Int) = ee at hxE HST
            clear f1 f2 f3 f4 f5
            cases pb with
            | true =>
              have HP2 : Aside0 ((ee == -1) = true ↔ plainP m o es (i + 1)) := ⟨by rw [HST.out, ← HPB.out]; simp⟩
              go_wp2
              go_roundw
              case rel => exact ⟨i + 1, (ee == -1), by omega, by go_num, rfl, HP2, HBR⟩
              case measure => simp [intOf]; omega
            | false =>
              have HP2 : Aside0 (false = true ↔ plainP m o es (i + 1)) := ⟨by rw [HST.out, ← HPB.out]; simp⟩
              go_wp2
              go_roundw
              case rel => exact ⟨i + 1, false, by omega, by go_num, rfl, HP2, HBR⟩
              case measure => simp [intOf]; omega
          · obtain rfl : i = es.length := by omega
            have hii : ¬ (es.length : Int) < (es.length : Int) := Int.lt_irrefl _
            have HBL := Aside0.mk f5
            cases pb with
            | false =>
              clear f1 f2 f3 f4 f5
              go_wp2_with fail
              with_reducible refine (awake_any _).mono ?_
              rintro e w20 ⟨rfl, hb20⟩
              have HB20 := Aside0.mk (HBL.out.trans (hb20.mono HBL.out.size))
              clear hb20
              go_wp2
              go_ret
              exact ⟨rfl, HB20.out⟩
            | true =>
              have hpp := HPB.out.1 rfl
              obtain ⟨hm00, ho40, hall⟩ := hpp
              have hno : ∀ k, (Value.slice none 0 0).ownBlock = some k → w5.heap.size ≤ k := fun k hk => by simp [Value.ownBlock] at hk
              have hen := Encode_any m o n0 n1 AP AE A cP cE c ps es l [] w5.heap.size (w5.heap.size + 1) (.slice none 0 0) wr m0 m1 (shortP_in HS.out) hcP hcE hc f1 (ListAt.elder HP5.out f4 (Nat.le_succ _) hno) (ListAt.elder HE5.out f4 (Nat.le_succ _) hno) (ListAt.elder HA5.out f4 (Nat.le_succ _) hno) (by simp)
              rw [List.nil_append] at hen
              have HEN := Aside0.mk hen
              have hsz := HSZ.out
              by_cases hcan : canE m o ps es n0 n1 l
              · rw [if_pos hcan, if_pos hcan] at HEN
                have hge : nx ≤ ((bitsE m o ps es n0 n1 l).length : Int) := by
                  rw [hm00] at hcan ⊢
                  exact HBQ.out hcan ho40 hall
                clear hen hcan hno f1 f2 f3 hm00 ho40 hall
                generalize bitsE m o ps es n0 n1 l = bx at HEN hge
                go_wp2_with fail
                with_reducible refine HEN.out.mono ?_
                rintro e w10 ⟨rfl, v10, hw10, hm10⟩
                have HBL2 : Aside0 (Below w.heap.size w w10) := ⟨f5.trans (hm10.below.mono hsz)⟩
                have HLE := Aside0.mk (Len_any bx _ _ v10 w10 hw10)
                clear hw10 hm10 HEN e0 e1 e2 e3 d0 d1 f4 f5 HBL
                have HBL := HBL2
                clear HBL2
                go_wp2_with fail
                with_reducible refine HLE.out.mono ?_
                rintro e w11 ⟨rfl, rfl⟩
                clear HLE
                go_wp2_with fail
                with_reducible refine (awake_any _).mono ?_
                rintro e w20 ⟨rfl, hb20⟩
                have HB20 := Aside0.mk (HBL.out.trans (hb20.mono HBL.out.size))
                clear hb20
                go_wp2
                go_ret
                exact ⟨rfl, HB20.out⟩
              · rw [if_neg hcan, if_neg hcan] at HEN
                clear hen hcan hno f1 f2 f3 hm00 ho40 hall
                go_wp2_with fail
                with_reducible refine HEN.out.mono ?_
                rintro e w10 ⟨rfl, v10, hw10, hm10⟩
                have HBL2 : Aside0 (Below w.heap.size w w10) := ⟨f5.trans (hm10.below.mono hsz)⟩
                clear hw10 hm10 HEN e0 e1 e2 e3 d0 d1 f4 f5 HBL
                have HBL := HBL2
                clear HBL2
                go_wp2_with fail
                with_reducible refine (awake_any _).mono ?_
                rintro e w20 ⟨rfl, hb20⟩
                have HB20 := Aside0.mk (HBL.out.trans (hb20.mono HBL.out.size))
                clear hb20
                go_wp2
                go_ret
                exact ⟨rfl, HB20.out⟩
  · rw [decide_eq_false hs] at HSH
    clear hs
    go_enter Try.func7, Try.ntmps7
    go_wp2_with fail
    with_reducible refine (HSH.out _ HB1.out).mono ?_
    rintro e w3 ⟨rfl, hd3⟩
    have HB3 : Aside0 (Below w.heap.size w w3) := ⟨HB1.out.trans (hd3.below.mono HB1.out.size)⟩
    clear hd3 HB1 HSH HZ1 HX1
    go_wp2_with fail
    with_reducible refine (awake_any _).mono ?_
    rintro e w9 ⟨rfl, hb9⟩
    have HB9 := Aside0.mk (HB3.out.trans (hb9.mono HB3.out.size))
    clear hb9
    go_wp2
    go_ret
    exact ⟨rfl, HB9.out⟩
end Go.Proofs.Ytfhekkoibmlmpaa.Hand
