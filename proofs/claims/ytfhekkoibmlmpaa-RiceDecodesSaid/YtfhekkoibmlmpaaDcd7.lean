/- Texts of this claim's proof, laid behind each other by a program of ours, without what the proof does not reach: Contracts of layer 8, proved by hand: Best; Contracts of layer 8, proved by hand: what is the same is the same; short lists; Contracts of layer 1, proved by hand: the reference's writer; Plain words of layer 8: the reference's Check, part and Cost; Contracts of layer 8, proved by hand: the reference's Encode; where it is refused ahead; its words; Contracts of layer 8, proved by hand: awake; Contracts of layer 8, proved by hand: the reference's Best, its words; Contracts of layer 8, proved by hand: RiceBest; Plain words of layer 1: the reference's reader gives what the reader gives; Contracts of layer 1, proved by hand: the reference's reader in the reader's words; Contracts of layer 8, proved by hand: the reference's Decode, its words; Contracts of layer 8, proved by hand: the reference's Decode, where it is refused; Contracts of layer 8, proved by hand: the reference's Decode, where its head may be (method 0) -/
import Derived.Laws.StructEq
import Derived.Laws.MakeOwn
import Derived.Test.YtfhekkoibmlmpaaDcd1
import Derived.Test.YtfhekkoibmlmpaaDcd2
import Derived.Test.YtfhekkoibmlmpaaDcd3
import Derived.Test.YtfhekkoibmlmpaaDcd4
import Derived.Test.YtfhekkoibmlmpaaDcd5
import Derived.Test.YtfhekkoibmlmpaaDcd6
import Derived.Test.YtfhekkoibmlmpaaDcdWApart
import Derived.Test.YtfhekkoibmlmpaaDcdWFoot
import Derived.Test.YtfhekkoibmlmpaaDcdWGuard
import Derived.Test.YtfhekkoibmlmpaaDcdWInv
import Derived.Test.YtfhekkoibmlmpaaDcdWKept
import Derived.Test.YtfhekkoibmlmpaaDcdWLast
import Derived.Test.YtfhekkoibmlmpaaDcdWMore
import Derived.Test.YtfhekkoibmlmpaaDcdWN
import Derived.Test.YtfhekkoibmlmpaaDcdWRepsOne
import Derived.Test.YtfhekkoibmlmpaaDcdWShare
import Derived.Test.YtfhekkoibmlmpaaDcdWTab
import Derived.Test.YtfhekkoibmlmpaaDcdWWords
/- Contracts of layer 8, proved by hand: Best. -/
namespace Go.Proofs.Ytfhekkoibmlmpaa.Hand
open Go.RowKit Go.Proofs.Ytfhekkoibmlmpaa.Q Go.Proofs.YtfhekkoibmlmpaaW.PrintWords Go.Proofs.YtfhekkoibmlmpaaW.PrintLast Go.Proofs.YtfhekkoibmlmpaaW.PrintMore
set_option linter.unusedVariables false
set_option linter.unusedSimpArgs false

structure BestSt (w : World) (b6 b8 : Nat) (o : Int) (wr : World) (vP vE : Value) (ps es : List Int) : Prop where
  bel : Below w.heap.size w wr
  z6 : wr.heap[b6]? = some (.cells zRice 24 (0, 0))
  r8 : wr.heap[b8]? = some (.cells #[.int .i64 0, .int .i64 o, vP, vE] 24 (0, 0))
  P : IntsAt wr w.heap.size vP ps
  E : IntsAt wr w.heap.size vE es
theorem BestSt.below {w : World} {b6 b8 : Nat} {o : Int} {wr w' : World} {vP vE : Value} {ps es : List Int} (h : BestSt w b6 b8 o wr vP vE ps es) (hb : Below wr.heap.size wr w') : BestSt w b6 b8 o w' vP vE ps es :=
  ⟨h.bel.trans (hb.mono h.bel.size), blk_below h.z6 hb, blk_below h.r8 hb, h.P.below hb, h.E.below hb⟩
theorem BestSt.put {w : World} {b6 b8 : Nat} {o o' : Int} {wr : World} {vP vE vP' vE' : Value} {ps es ps' es' : List Int} (h : BestSt w b6 b8 o wr vP vE ps es) (h68 : b6 ≠ b8) (h8 : w.heap.size ≤ b8) (hP : IntsAt wr w.heap.size vP' ps') (hE : IntsAt wr w.heap.size vE' es') :
    BestSt w b6 b8 o' (wr.setRow b8 #[.int .i64 0, .int .i64 o', vP', vE']) vP' vE' ps' es' :=
  ⟨below_setRow h.bel h8 _, by rw [setRow_other _ _ _ _ h68]; exact h.z6, setRow_heap _ _ _ _ _ _ h.r8, hP.setRow h.r8 (by decide), hE.setRow h.r8 (by decide)⟩
theorem better_take {bo o n sum : Int} {ps es ps' es' : List Int} (h : 0 ≤ sum ∧ (n < 0 ∨ sum < n)) : betterF (bo, ps, es, n) o (some (sum, ps', es')) = (o, ps', es', sum) := if_pos h
theorem better_keep {bo o n sum : Int} {ps es ps' es' : List Int} (h : ¬ (0 ≤ sum ∧ (n < 0 ∨ sum < n))) : betterF (bo, ps, es, n) o (some (sum, ps', es')) = (bo, ps, es, n) := if_neg h
set_option maxHeartbeats 16000000 in
set_option maxRecDepth 100000 in
theorem Best_any (block order : Int) (l : List Int) (A : Option Addr) (c : Nat) (w : World) (hc : l.length ≤ c) (hA : Kd.C (Kd.int .i64) w A l.length l)
    (hin : ∀ x ∈ l, -9223372036854775808 ≤ x ∧ x ≤ 9223372036854775807) :
    Calls Try.prog 26 #[.int .i64 block, .int .i64 order, .slice A l.length c] w fun e w' => ∃ vP vE,
      e = .returned (.tuple #[.agg #[.int .i64 0, .int .i64 (bestF block order l).1, vP, vE], .int .i64 (bestF block order l).2.2.2]) ∧
      IntsAt w' w.heap.size vP (bestF block order l).2.1 ∧ IntsAt w' w.heap.size vE (bestF block order l).2.2.1 ∧ Below w.heap.size w w' := by
  have HTRY : Aside0 (∀ (i : Nat) (W : World), Below w.heap.size w W → Calls Try.prog 46 #[.int .i64 i, .int .i64 block, .int .i64 order, .slice A l.length c] W (TryPost i (tryF block order l i) W.heap.size W)) := ⟨fun i W hW =>
    try_any i block order l A c W hc (Kd.C_below hA hW) hin⟩
  obtain ⟨X, hX⟩ : ∃ X, bestF block order l = X := ⟨_, rfl⟩
  rw [hX]
  have HX := Aside0.mk hX
  clear hX hA hin hc
  have hb1 : Below w.heap.size w ((w.alloc (.cells zRice 24 (0, 0))).alloc (.cells zRice 24 (0, 0))) := below_alloc (below_alloc (Below.refl _ _) _) _
  have hz : ((w.alloc (.cells zRice 24 (0, 0))).alloc (.cells zRice 24 (0, 0))).heap[w.heap.size]? = some (.cells zRice 24 (0, 0)) := blk_alloc (blk_new w _) _
  have hx : ((w.alloc (.cells zRice 24 (0, 0))).alloc (.cells zRice 24 (0, 0))).heap[w.heap.size + 1]? = some (.cells zRice 24 (0, 0)) := by simpa using blk_new (w.alloc (.cells zRice 24 (0, 0))) (.cells zRice 24 (0, 0))
  have hst0 : BestSt w w.heap.size (w.heap.size + 1) 0 (((w.alloc (.cells zRice 24 (0, 0))).alloc (.cells zRice 24 (0, 0))).setRow (w.heap.size + 1) zRice) (.slice none 0 0) (.slice none 0 0) [] [] :=
    ⟨below_setRow hb1 (Nat.le_succ _) _, by rw [setRow_other _ _ _ _ (by omega)]; exact hz, setRow_heap _ _ _ _ _ _ hx, IntsAt.nil _ _, IntsAt.nil _ _⟩
  have HST := Aside0.mk hst0
  have HXX := Aside0.mk hx
  have h68 : w.heap.size ≠ w.heap.size + 1 := by omega
  have hC8 : w.heap.size ≤ w.heap.size + 1 := by omega
  clear hb1 hz hx hst0
  go_enter Try.func26, Try.ntmps26
  go_upto_region 2 with ((with_reducible refine wpList_store_row ?_ 24 (.tmp 8) (.tmp 13) ?_ (w.heap.size + 1) zRice ?_ ?_ 24 zRice HXX.out (rc_info _ _ _ _) ?_ (rc_one _ _ _ _ _ _ _ _) ?_); rfl; rfl; rfl; rfl; rfl)
  generalize ((w.alloc (.cells zRice 24 (0, 0))).alloc (.cells zRice 24 (0, 0))).setRow (w.heap.size + 1) zRice = w1 at *
  generalize w.heap.size + 1 = b8 at *
  clear HXX
  go_wp2
  go_loopw [9, 14] (fun sv iv wr => ∃ (i : Nat) (bo n : Int) (vP vE : Value) (ps es : List Int), i ≤ 5 ∧ iv = .int .i64 i ∧ sv = .int .i64 n ∧ Aside0 (BestSt w w.heap.size b8 bo wr vP vE ps es) ∧ Aside0 (bestL block order l (5 - i) i (bo, ps, es, n) = X)) (fun _ iv _ => 5 - (intOf iv).toNat)
  case atStart => exact ⟨0, 0, -1, .slice none 0 0, .slice none 0 0, [], [], by omega, rfl, rfl, HST, HX⟩
  case round =>
    clear HST HX
    obtain ⟨i, bo, n, vP, vE, ps, es, hi, rfl, rfl, HST, HX⟩ := hrel
    by_cases hlt : i < 5
    · have i1 : (i : Int) < 5 := by omega
      obtain ⟨d, hd⟩ : ∃ d, 5 - i = d + 1 := ⟨5 - i - 1, by omega⟩
      have hd2 : 5 - (i + 1) = d := by omega
      have HD := Aside0.mk hd2
      have HX2 : Aside0 (bestL block order l d (i + 1) (betterF (bo, ps, es, n) (i : Int) (tryF block order l (i : Int))) = X) := ⟨by
        have := HX.out
        rw [hd] at this
        exact this⟩
      have HT := Aside0.mk (HTRY.out i wr HST.out.bel)
      clear HX hd hd2
      generalize tryF block order l (i : Int) = Y at HT HX2
      go_wp2_with fail
      with_reducible refine HT.out.mono ?_
      rintro e w4 hpost
      clear HT
      rcases hpost with ⟨rfl, rfl, hb4⟩ | ⟨sum, ps', es', vP', vE', rfl, rfl, hP', hE', hb4⟩
      · have HST4 := Aside0.mk (HST.out.below (hb4.trans ((below_setRow (below_alloc (Below.refl w4.heap.size w4) (.cells zRice 24 (0, 0))) (Nat.le_refl _) zRice).mono hb4.size)))
        have HN := Aside0.mk (blk_new w4 (.cells zRice 24 (0, 0)))
        clear hb4 HST
        go_wp2_with ((with_reducible refine wpList_store_row ?_ 24 (.tmp 11) (.tmp 23) ?_ (w4.heap.size) (zRice) ?_ ?_ 24 (zRice) (HN.out) (rc_info _ _ _ _) ?_ (rc_one _ _ _ _ _ _ _ _) ?_); rfl; rfl; rfl; rfl; rfl)
        go_roundw
        case rel => exact ⟨i + 1, bo, n, vP, vE, ps, es, by omega, by go_num, rfl, HST4, ⟨by rw [HD.out]; exact HX2.out⟩⟩
        case measure => simp [intOf]; omega
      · obtain ⟨AP, nP, cP, eP⟩ := hP'.shape
        subst eP
        obtain ⟨AE, nE, cE, eE⟩ := hE'.shape
        subst eE
        have hbN : Below w4.heap.size w4 ((w4.alloc (.cells zRice 24 (0, 0))).setRow w4.heap.size #[.int .i64 0, .int .i64 (i : Int), .slice AP nP cP, .slice AE nE cE]) := below_setRow (below_alloc (Below.refl w4.heap.size w4) (.cells zRice 24 (0, 0))) (Nat.le_refl _) _
        have HST4 := Aside0.mk (HST.out.below (hb4.trans (hbN.mono hb4.size)))
        have HP4 := Aside0.mk ((hP'.lower HST.out.bel.size).below hbN)
        have HE4 := Aside0.mk ((hE'.lower HST.out.bel.size).below hbN)
        have HN := Aside0.mk (blk_new w4 (.cells zRice 24 (0, 0)))
        have HN4 := Aside0.mk (setRow_heap _ _ _ #[.int .i64 0, .int .i64 (i : Int), .slice AP nP cP, .slice AE nE cE] _ _ HN.out)
        clear hb4 HST hP' hE' hbN
        go_upto_region 6 with ((with_reducible refine wpList_store_row ?_ 24 (.tmp 11) (.tmp 23) ?_ (w4.heap.size) (#[.int .i64 0, .int .i64 (i : Int), .slice AP nP cP, .slice AE nE cE]) ?_ ?_ 24 (zRice) (HN.out) (rc_info _ _ _ _) ?_ (rc_one _ _ _ _ _ _ _ _) ?_); rfl; rfl; rfl; rfl; rfl)
        generalize (w4.alloc (.cells zRice 24 (0, 0))).setRow w4.heap.size #[.int .i64 0, .int .i64 (i : Int), .slice AP nP cP, .slice AE nE cE] = w5 at *
        generalize w4.heap.size = b11 at *
        clear HN
        by_cases g0 : 0 ≤ sum
        · by_cases g1 : n < 0
          · have HX3 : Aside0 (bestL block order l d (i + 1) ((i : Int), ps', es', sum) = X) := ⟨by have := HX2.out; rwa [better_take (by omega)] at this⟩
            clear HX2
            have HST6 := Aside0.mk (HST4.out.put (o' := (i : Int)) h68 hC8 HP4.out HE4.out)
            have HR8 := Aside0.mk HST4.out.r8
            have c0 := blk_cell HN4.out 0
            have c1 := blk_cell HN4.out 1
            have c2 := blk_cell HN4.out 2
            have c3 := blk_cell HN4.out 3
            go_wp2_with ((with_reducible refine wpList_store_row ?_ 24 (.tmp 8) (.tmp 36) ?_ (b8) (#[.int .i64 0, .int .i64 (i : Int), .slice AP nP cP, .slice AE nE cE]) ?_ ?_ 24 (#[.int .i64 0, .int .i64 bo, vP, vE]) (HR8.out) (rc_info _ _ _ _) ?_ (rc_one _ _ _ _ _ _ _ _) ?_); rfl; rfl; rfl; rfl; rfl)
            clear c0 c1 c2 c3
            go_roundw
            case rel => exact ⟨i + 1, (i : Int), sum, _, _, ps', es', by omega, by go_num, rfl, HST6, ⟨by rw [HD.out]; exact HX3.out⟩⟩
            case measure => simp [intOf]; omega
          · by_cases g2 : sum < n
            · have HX3 : Aside0 (bestL block order l d (i + 1) ((i : Int), ps', es', sum) = X) := ⟨by have := HX2.out; rwa [better_take (by omega)] at this⟩
              clear HX2
              have HST6 := Aside0.mk (HST4.out.put (o' := (i : Int)) h68 hC8 HP4.out HE4.out)
              have HR8 := Aside0.mk HST4.out.r8
              have c0 := blk_cell HN4.out 0
              have c1 := blk_cell HN4.out 1
              have c2 := blk_cell HN4.out 2
              have c3 := blk_cell HN4.out 3
              go_wp2_with ((with_reducible refine wpList_store_row ?_ 24 (.tmp 8) (.tmp 36) ?_ (b8) (#[.int .i64 0, .int .i64 (i : Int), .slice AP nP cP, .slice AE nE cE]) ?_ ?_ 24 (#[.int .i64 0, .int .i64 bo, vP, vE]) (HR8.out) (rc_info _ _ _ _) ?_ (rc_one _ _ _ _ _ _ _ _) ?_); rfl; rfl; rfl; rfl; rfl)
              clear c0 c1 c2 c3
              go_roundw
              case rel => exact ⟨i + 1, (i : Int), sum, _, _, ps', es', by omega, by go_num, rfl, HST6, ⟨by rw [HD.out]; exact HX3.out⟩⟩
              case measure => simp [intOf]; omega
            · have HX3 : Aside0 (bestL block order l d (i + 1) (bo, ps, es, n) = X) := ⟨by have := HX2.out; rwa [better_keep (by omega)] at this⟩
              clear HX2
              go_wp2
              go_roundw
              case rel => exact ⟨i + 1, bo, n, vP, vE, ps, es, by omega, by go_num, rfl, HST4, ⟨by rw [HD.out]; exact HX3.out⟩⟩
              case measure => simp [intOf]; omega
        · have g0' : sum < 0 := by omega
          have HX3 : Aside0 (bestL block order l d (i + 1) (bo, ps, es, n) = X) := ⟨by have := HX2.out; rwa [better_keep (by omega)] at this⟩
          clear HX2
          go_wp2
          go_roundw
          case rel => exact ⟨i + 1, bo, n, vP, vE, ps, es, by omega, by go_num, rfl, HST4, ⟨by rw [HD.out]; exact HX3.out⟩⟩
          case measure => simp [intOf]; omega
    · obtain rfl : i = 5 := by omega
      have HXS : Aside0 (X = (bo, ps, es, n)) := ⟨HX.out.symm⟩
      clear HX
      obtain ⟨AP, nP, cP, eP⟩ := HST.out.P.shape
      subst eP
      obtain ⟨AE, nE, cE, eE⟩ := HST.out.E.shape
      subst eE
      have c0 := blk_cell HST.out.r8 0
      have c1 := blk_cell HST.out.r8 1
      have c2 := blk_cell HST.out.r8 2
      have c3 := blk_cell HST.out.r8 3
      go_wp2_with ((with_reducible refine wpList_store_row ?_ 24 (.tmp 6) (.tmp 39) ?_ (w.heap.size) (#[.int .i64 0, .int .i64 bo, .slice AP nP cP, .slice AE nE cE]) ?_ ?_ 24 (zRice) (HST.out.z6) (rc_info _ _ _ _) ?_ (rc_one _ _ _ _ _ _ _ _) ?_); rfl; rfl; rfl; rfl; rfl)
      refine bodyPost_ret (results_ct rfl _ _ w.heap.size 24 #[.int .i64 0, .int .i64 bo, .slice AP nP cP, .slice AE nE cE] (0, 0) _ rfl (setRow_heap _ _ _ _ _ _ HST.out.z6) Try.underlying24 rfl (rc_info _ _ _ _)) rfl ?_
      rw [HXS.out]
      exact ⟨_, _, rfl, HST.out.P.setRow HST.out.z6 (by decide), HST.out.E.setRow HST.out.z6 (by decide), below_setRow HST.out.bel (Nat.le_refl _) _⟩
end Go.Proofs.Ytfhekkoibmlmpaa.Hand

/- Contracts of layer 8, proved by hand: what is the same is the same; short lists. -/
namespace Go.Proofs.Ytfhekkoibmlmpaa.Hand
open Go.RowKit Go.Proofs.Ytfhekkoibmlmpaa.Q Go.Proofs.YtfhekkoibmlmpaaW.PrintWords Go.Proofs.YtfhekkoibmlmpaaW.PrintLast Go.Proofs.YtfhekkoibmlmpaaW.PrintMore
set_option linter.unusedVariables false
set_option linter.unusedSimpArgs false

theorem ints_loop (a : List Int) (h : a.length ≤ 9223372036854775807) : ∀ d i : Nat, i + d = a.length → lacquerref05_Ints.l0 (d + 1) a a (i : Int) = some true
  | 0, i, hi => by
    simp only [lacquerref05_Ints.l0]
    rw [if_neg (by omega)]
  | d + 1, i, hi => by
    have ih := ints_loop a h d (i + 1) (by omega)
    rw [lacquerref05_Ints.l0]
    rw [if_pos (by omega), if_pos (by omega), if_pos (by omega), if_pos rfl, w64h _ (by omega) (by omega)]
    exact ih
theorem Ints_same (l : List Int) (hl : l.length ≤ 9223372036854775807) (A : Option Addr) (c : Nat) (B : Option Addr) (d : Nat) (w : World) (hA : Kd.C (Kd.int .i64) w A l.length l) (hc : l.length ≤ c) (hB : Kd.C (Kd.int .i64) w B l.length l) (hd : l.length ≤ d) :
    Calls Try.prog 23 #[.slice A l.length c, .slice B l.length d] w fun e w' => e = .returned (.bool true) ∧ Drawn0 w w' := by
  refine lacquerref05_Ints.calls (l.length + 1) A c l B d l true w hA hc hB hd ?_
  unfold lacquerref05_Ints.f
  rw [if_pos rfl]
  exact ints_loop l hl l.length 0 (by omega)
theorem same_l1 (m o : Int) (ps es : List Int) (h : es.length ≤ 9223372036854775807) : ∀ d i : Nat, i + d = es.length → lacquerref08_Same.l1 (d + 1) (i : Int) m o ps es m o ps es = some true
  | 0, i, hi => by
    simp only [lacquerref08_Same.l1]
    rw [if_neg (by omega)]
  | d + 1, i, hi => by
    have ih := same_l1 m o ps es h d (i + 1) (by omega)
    rw [lacquerref08_Same.l1]
    rw [if_pos (by omega), if_pos (by omega), if_pos (by omega), if_pos rfl, w64h _ (by omega) (by omega)]
    exact ih
theorem same_l0 (m o : Int) (ps es : List Int) (h : es.length ≤ 9223372036854775807) (hp : ps.length ≤ 9223372036854775807) : ∀ d i : Nat, i + d = ps.length → lacquerref08_Same.l0 (d + 1 + (es.length + 1)) (i : Int) m o ps es m o ps es = some true
  | 0, i, hi => by
    rw [show 0 + 1 + (es.length + 1) = (es.length + 1) + 1 by omega, lacquerref08_Same.l0]
    rw [if_neg (by omega)]
    exact same_l1 m o ps es h es.length 0 (by omega)
  | d + 1, i, hi => by
    have ih := same_l0 m o ps es h hp d (i + 1) (by omega)
    rw [show d + 1 + 1 + (es.length + 1) = (d + 1 + (es.length + 1)) + 1 by omega, lacquerref08_Same.l0]
    rw [if_pos (by omega), if_pos (by omega), if_pos (by omega), if_pos rfl, w64h _ (by omega) (by omega)]
    exact ih
theorem Same_same (m o : Int) (ps es : List Int) (h : es.length ≤ 9223372036854775807) (hp : ps.length ≤ 9223372036854775807) (AP AE BP BE : Option Addr) (cP cE dP dE : Nat) (w : World) (hAP : Kd.C (Kd.int .i64) w AP ps.length ps) (hcP : ps.length ≤ cP)
    (hAE : Kd.C (Kd.int .i64) w AE es.length es) (hcE : es.length ≤ cE) (hBP : Kd.C (Kd.int .i64) w BP ps.length ps) (hdP : ps.length ≤ dP) (hBE : Kd.C (Kd.int .i64) w BE es.length es) (hdE : es.length ≤ dE) :
    Calls Try.prog 24 #[.agg #[.int .i64 m, .int .i64 o, .slice AP ps.length cP, .slice AE es.length cE], .agg #[.int .i64 m, .int .i64 o, .slice BP ps.length dP, .slice BE es.length dE]] w fun e w' => e = .returned (.bool true) ∧ Below w.heap.size w w' := by
  refine lacquerref08_Same.calls (ps.length + 1 + (es.length + 1) + 1) m o AP cP ps AE cE es m o BP dP ps BE dE es true w hAP hcP hAE hcE hBP hdP hBE hdE ?_
  unfold lacquerref08_Same.f
  rw [if_pos rfl, if_pos rfl, if_pos rfl, lacquerref08_Same.j0]
  rw [if_neg (by simp)]
  exact same_l0 m o ps es h hp ps.length 0 (by omega)
/-- Short lists. -/
def shortP (l : List Int) : Prop := (∀ x ∈ l, -4000 ≤ x ∧ x ≤ 4000) ∧ l.length ≤ 5000
instance (l : List Int) : Decidable (shortP l) := by unfold shortP; infer_instance
end Go.Proofs.Ytfhekkoibmlmpaa.Hand

/- Contracts of layer 1, proved by hand: the reference's writer. -/
namespace Go.Proofs.Ytfhekkoibmlmpaa.Hand
open Go.RowKit
set_option linter.unusedVariables false
set_option linter.unusedSimpArgs false

end Go.Proofs.Ytfhekkoibmlmpaa.Hand
namespace Go.Proofs.Ytfhekkoibmlmpaa.Hand
open Go.RowKit Go.Proofs.Ytfhekkoibmlmpaa.Q Go.Proofs.YtfhekkoibmlmpaaW.PrintWords Go.Proofs.YtfhekkoibmlmpaaW.PrintLast Go.Proofs.YtfhekkoibmlmpaaW.PrintMore
set_option linter.unusedVariables false
set_option linter.unusedSimpArgs false

def b01 (b : Bool) : Int := if b then 1 else 0
def ones (bs : List Bool) : List Int := bs.map b01
theorem ones_snoc (bs : List Bool) (b : Bool) : ones (bs ++ [b]) = ones bs ++ [b01 b] := by simp [ones]
/-- The reference's writer of these bits: a byte each. -/
def XW (w : World) (B g : Nat) (v : Value) (bs : List Bool) : Prop := w.heap[g]? = some (.cells #[v] 33 (0, 0)) ∧ BytesAt w B v (ones bs) ∧ B ≤ g
theorem XW.below {w w' : World} {B g : Nat} {v : Value} {bs : List Bool} (h : XW w B g v bs) (hb : Below w.heap.size w w') : XW w' B g v bs := ⟨blk_below h.1 hb, h.2.1.below hb, h.2.2⟩
theorem XW.lt {w : World} {B g : Nat} {v : Value} {bs : List Bool} (h : XW w B g v bs) : g < w.heap.size := blk_lt h.1
theorem XW.grown {W w1 : World} {B g : Nat} {v : Value} {bs : List Bool} (h : XW W B g v bs) (hg : W.grownBy w1 v.ownBlock) : w1.heap[g]? = some (.cells #[v] 33 (0, 0)) := by
  rw [hg.block g h.lt (fun e => ?_)]
  · exact h.1
  · exact Kd.R_ne h.2.1.all h.1 (by decide) e
theorem XW.put {w1 : World} {B g : Nat} {v v1 : Value} {bs : List Bool} {one : Bool} (hb : w1.heap[g]? = some (.cells #[v] 33 (0, 0))) (hr : BytesAt w1 B v1 (ones bs ++ [b01 one])) (hB : B ≤ g) : XW (w1.setCell ⟨g, 0, none⟩ v1) B g v1 (bs ++ [one]) := by
  rw [← ones_snoc] at hr
  exact ⟨blk_put hb 0 v1 rfl, hr.set hb (by decide) 0 v1, hB⟩
end Go.Proofs.Ytfhekkoibmlmpaa.Hand
namespace Go.Proofs.Ytfhekkoibmlmpaa.Hand
open Go.RowKit Go.Proofs.Ytfhekkoibmlmpaa.Q Go.Proofs.YtfhekkoibmlmpaaW.PrintWords Go.Proofs.YtfhekkoibmlmpaaW.PrintLast Go.Proofs.YtfhekkoibmlmpaaW.PrintMore
set_option linter.unusedVariables false
set_option linter.unusedSimpArgs false

end Go.Proofs.Ytfhekkoibmlmpaa.Hand
namespace Go.Proofs.Ytfhekkoibmlmpaa.Hand
open Go.RowKit Go.Proofs.Ytfhekkoibmlmpaa.Q Go.Proofs.YtfhekkoibmlmpaaW.PrintWords Go.Proofs.YtfhekkoibmlmpaaW.PrintLast Go.Proofs.YtfhekkoibmlmpaaW.PrintMore
set_option linter.unusedVariables false
set_option linter.unusedSimpArgs false

end Go.Proofs.Ytfhekkoibmlmpaa.Hand

/- Plain words of layer 8: the reference's Check, part and Cost. -/
namespace Go.Proofs.Ytfhekkoibmlmpaa.Hand
open Go.RowKit Go.Proofs.Ytfhekkoibmlmpaa.Q Go.Proofs.YtfhekkoibmlmpaaW.PrintWords Go.Proofs.YtfhekkoibmlmpaaW.PrintLast Go.Proofs.YtfhekkoibmlmpaaW.PrintMore
set_option linter.unusedVariables false
set_option linter.unusedSimpArgs false

theorem xpart_eq (m : Int) (O Bk Od n i : Nat) (ps es : List Int) (hO : O ≤ 15) (hB : Bk ≤ 65535) (hd : Od ≤ 32) (hdiv : Bk = 2 ^ O * n) (hon : Od ≤ n) (hi : i < 2 ^ O) :
    lacquerref08_part.f m O ps es Bk Od i = some (((i * n - Od : Nat) : Int), (((i + 1) * n - Od : Nat) : Int)) := by
  have hw : IntKind.u64.wrap (O : Int) = (O : Int) := by rw [u64_wrap]; omega
  have hp := Nat.two_pow_pos O
  have hsr : shr .i64 (Bk : Int) (O : Int) = (n : Int) := by
    rw [shr_lo _ _ (by omega), hdiv]
    have e : (2 : Int) ^ O = ((2 ^ O : Nat) : Int) := by simp
    rw [e, ← Int.natCast_ediv, Nat.mul_div_cancel_left n hp]
  have h1 : (i + 1) * n ≤ 2 ^ O * n := Nat.mul_le_mul_right n (by omega)
  have h2 : (i + 1) * n = i * n + n := Nat.succ_mul i n
  have hO2 : 2 ^ O ≤ 2 ^ 15 := Nat.pow_le_pow_right (by decide) hO
  have e15 : (2 : Nat) ^ 15 = 32768 := by decide
  unfold lacquerref08_part.f
  rw [hw, if_pos (by omega), hsr, w64h ((i : Int) + 1) (by omega) (by omega)]
  have e1 : (i : Int) * (n : Int) = ((i * n : Nat) : Int) := by simp
  have e2 : ((i : Int) + 1) * (n : Int) = (((i + 1) * n : Nat) : Int) := by simp
  rw [e1, e2, w64h (((i + 1) * n : Nat) : Int) (by omega) (by omega), w64h ((i * n : Nat) : Int) (by omega) (by omega), w64h _ (by omega) (by omega)]
  by_cases h0 : i = 0
  · subst h0
    rw [if_pos (by decide)]
    refine congrArg some (Prod.ext ?_ ?_)
    · show (0 : Int) = ((0 * n - Od : Nat) : Int)
      rw [Nat.zero_mul, Nat.zero_sub]; rfl
    · show (((0 + 1) * n : Nat) : Int) - (Od : Int) = (((0 + 1) * n - Od : Nat) : Int)
      omega
  · have h3 : 1 * n ≤ i * n := Nat.mul_le_mul_right n (by omega)
    rw [if_neg (by omega), w64h _ (by omega) (by omega)]
    refine congrArg some (Prod.ext ?_ ?_)
    · show ((i * n : Nat) : Int) - (Od : Int) = ((i * n - Od : Nat) : Int)
      omega
    · show (((i + 1) * n : Nat) : Int) - (Od : Int) = (((i + 1) * n - Od : Nat) : Int)
      omega
end Go.Proofs.Ytfhekkoibmlmpaa.Hand

/- Contracts of layer 8, proved by hand: the reference's Encode; where it is refused ahead; its words. -/
namespace Go.Proofs.Ytfhekkoibmlmpaa.Hand
open Go.RowKit Go.Proofs.Ytfhekkoibmlmpaa.Q Go.Proofs.YtfhekkoibmlmpaaW.PrintWords Go.Proofs.YtfhekkoibmlmpaaW.PrintLast Go.Proofs.YtfhekkoibmlmpaaW.PrintMore
set_option linter.unusedVariables false
set_option linter.unusedSimpArgs false

section
variable {ops : Array Oper} {o : Oper} {a : Act} {Q : Exit → Act → World → Prop} {Kc : Act → World → Prop} {rest : List Oper}
end
theorem C_cell {w : World} {A : Option Addr} {xs : List Int} (h : Kd.C (Kd.int .i64) w A xs.length xs) (i : Nat) (hi : i < xs.length) : ∃ ad, A = some ad ∧ w.cell? (ad.add i) = some (.int .i64 (rd xs (i : Int))) := by
  have hr : ReadsInt w .i64 A xs.length xs := Kd.reads_of_C (d := (0 : Int)) (enc := Value.int .i64) h
  obtain ⟨ad, e, hx⟩ := hr.at_ (i : Int) (by omega) (by omega)
  rw [Int.toNat_natCast] at hx
  exact ⟨ad, e, hx⟩
/-- The number 1, shifted by a letter: all its forms. -/
structure Shl1 (oI : Int) (N : Nat) : Prop where
  j9 : IntKind.i64.wrap (1 * 2 ^ min oI.toNat 64) = (N : Int)
  j0 : IntKind.i64.wrap (1 * 2 ^ oI.toNat) = (N : Int)
  j1 : IntKind.i64.wrap (2 ^ min oI.toNat 64) = (N : Int)
  j2 : IntKind.i64.wrap (2 ^ oI.toNat) = (N : Int)
  j3 : wrap64 (1 * 2 ^ min oI.toNat 64) = (N : Int)
  j4 : wrap64 (2 ^ min oI.toNat 64) = (N : Int)
  u : IntKind.u64.wrap oI = oI
theorem shl1 (O N : Nat) (hO : O ≤ 15) (hN : 2 ^ O = N) : Shl1 (O : Int) N := by
  have h2 : 2 ^ O ≤ 2 ^ 15 := Nat.pow_le_pow_right (by decide) hO
  have e15 : (2 : Nat) ^ 15 = 32768 := by decide
  have hsl : (1 : Int) * 2 ^ min ((O : Int)).toNat 64 = (N : Int) := by
    rw [Int.toNat_natCast, Nat.min_eq_left (by omega), Int.one_mul, ← hN]
    simp
  have hmin : min ((O : Int)).toNat 64 = ((O : Int)).toNat := Nat.min_eq_left (by omega)
  have hj9 : IntKind.i64.wrap (1 * 2 ^ min ((O : Int)).toNat 64) = (N : Int) := by rw [hsl, IntKind.wrap_i64]; omega
  have hj0 : IntKind.i64.wrap (1 * 2 ^ ((O : Int)).toNat) = (N : Int) := by rw [hmin] at hj9; exact hj9
  have hj1 : IntKind.i64.wrap (2 ^ min ((O : Int)).toNat 64) = (N : Int) := by rw [Int.one_mul] at hj9; exact hj9
  have hj2 : IntKind.i64.wrap (2 ^ ((O : Int)).toNat) = (N : Int) := by rw [Int.one_mul] at hj0; exact hj0
  have hj3 : wrap64 (1 * 2 ^ min ((O : Int)).toNat 64) = (N : Int) := by rw [hsl]; unfold wrap64; omega
  have hj4 : wrap64 (2 ^ min ((O : Int)).toNat 64) = (N : Int) := by rw [Int.one_mul] at hj3; exact hj3
  exact ⟨hj9, hj0, hj1, hj2, hj3, hj4, by rw [u64_wrap]; omega⟩
end Go.Proofs.Ytfhekkoibmlmpaa.Hand

/- Contracts of layer 8, proved by hand: awake. -/
namespace Go.Proofs.Ytfhekkoibmlmpaa.Hand
open Go.RowKit Go.Proofs.Ytfhekkoibmlmpaa.Q Go.Proofs.YtfhekkoibmlmpaaW.PrintWords Go.Proofs.YtfhekkoibmlmpaaW.PrintLast Go.Proofs.YtfhekkoibmlmpaaW.PrintMore
set_option linter.unusedVariables false
set_option linter.unusedSimpArgs false

/-- A literal list. -/
theorem lit4 {w : World} {g : Nat} (h : w.heap[g]? = some (.cells #[.int .i64 0, .int .i64 (-1), .int .i64 1, .int .i64 2] 3 (0, 0))) : Kd.C (Kd.int .i64) w (some ⟨g, 0, none⟩) ([0, -1, 1, 2] : List Int).length [0, -1, 1, 2] := by
  refine Kd.C_of_reads (d := (0 : Int)) (enc := Value.int .i64) ⟨rfl, by simp, fun _ => ⟨_, rfl, fun j hj => ?_⟩⟩
  rw [add_plain]
  have hc := blk_cell h j
  rw [hc]
  match j, hj with
  | 0, _ => rfl
  | 1, _ => rfl
  | 2, _ => rfl
  | 3, _ => rfl
theorem best4 : bestF 4 0 [0, -1, 1, 2] = (0, [0], [-1], 21) := by decide +kernel
theorem can4 : canE 0 0 [0] [-1] 4 0 [0, -1, 1, 2] := by decide +kernel
theorem len4 : (bitsE 0 0 [0] [-1] 4 0 [0, -1, 1, 2]).length = 21 := by decide +kernel
theorem dec4 : decF (strOfNums (pack (bitsE 0 0 [0] [-1] 4 0 [0, -1, 1, 2]))) 0 4 0 = (0, 0, [0, -1, 1, 2], [0], [-1], 0, 21) := by
  have h := dec_back (A := []) (R := []) 0 0 4 0 [0] [-1] [0, -1, 1, 2] (text_holds (bitsE 0 0 [0] [-1] 4 0 [0, -1, 1, 2])) (by simp) can4
  rw [len4] at h
  exact h
theorem cost41 : costF [0, -1, 1, 2] 1 = 11 := by decide +kernel
theorem cost4n : costF [0, -1, 1, 2] 31 = -1 := by decide +kernel
theorem span4 : ∀ x ∈ ([0, -1, 1, 2] : List Int), -9223372036854775808 ≤ x ∧ x ≤ 9223372036854775807 := by decide
theorem Cost_any (l : List Int) (k : Int) (A : Option Addr) (c : Nat) (w : World) (hl : l.length ≤ 65535) (hin : ∀ x ∈ l, -9223372036854775808 ≤ x ∧ x ≤ 9223372036854775807) (hA : Kd.C (Kd.int .i64) w A l.length l) (hc : l.length ≤ c) :
    Calls Try.prog 28 #[.slice A l.length c, .int .i64 k] w fun e w' => e = .returned (.int .i64 (costF l k)) ∧ Drawn0 w w' := by
  obtain ⟨n, h⟩ := (cost_ev l k hl hin).rounds
  exact rice_Cost.calls n A c l k _ w hA hc h
theorem pack_size (bs : List Bool) : (strOfNums (pack bs)).size = (bs.length + 7) / 8 := by rw [size_nums, pack_length]
set_option maxHeartbeats 16000000 in
set_option maxRecDepth 100000 in
theorem awake_any (w : World) : Calls Try.prog 9 #[] w fun e w' => e = .returned (.bool true) ∧ Below w.heap.size w w' := by
  have hup := Try.underlying28
  have hup2 := Try.underlying45
  have hblk := blk_new w (.cells #[.int .i64 0, .int .i64 (-1), .int .i64 1, .int .i64 2] 3 (0, 0))
  have hbel := below_alloc (Below.refl w.heap.size w) (.cells #[.int .i64 0, .int .i64 (-1), .int .i64 1, .int .i64 2] 3 (0, 0))
  have hbe := Best_any 4 0 [0, -1, 1, 2] (some ⟨w.heap.size, 0, none⟩) 4 _ (by simp) (lit4 hblk) span4
  rw [best4] at hbe
  have HBE : Aside0 (Calls Try.prog 26 #[.int .i64 4, .int .i64 0, .slice (some ⟨w.heap.size, 0, none⟩) 4 4] (w.alloc (.cells #[.int .i64 0, .int .i64 (-1), .int .i64 1, .int .i64 2] 3 (0, 0))) fun e w' => ∃ vP vE, e = .returned (.tuple #[.agg #[.int .i64 0, .int .i64 0, vP, vE], .int .i64 21]) ∧
      IntsAt w' (w.alloc (.cells #[.int .i64 0, .int .i64 (-1), .int .i64 1, .int .i64 2] 3 (0, 0))).heap.size vP [0] ∧ IntsAt w' (w.alloc (.cells #[.int .i64 0, .int .i64 (-1), .int .i64 1, .int .i64 2] 3 (0, 0))).heap.size vE [-1] ∧ Below (w.alloc (.cells #[.int .i64 0, .int .i64 (-1), .int .i64 1, .int .i64 2] 3 (0, 0))).heap.size (w.alloc (.cells #[.int .i64 0, .int .i64 (-1), .int .i64 1, .int .i64 2] 3 (0, 0))) w') := ⟨hbe⟩
  have HC0 : Aside0 (Kd.C (Kd.int .i64) (w.alloc (.cells #[.int .i64 0, .int .i64 (-1), .int .i64 1, .int .i64 2] 3 (0, 0))) (some ⟨w.heap.size, 0, none⟩) 4 [0, -1, 1, 2]) := ⟨lit4 hblk⟩
  have HB0 := Aside0.mk hbel
  clear hblk hbel hbe
  go_enter Try.func9, Try.ntmps9
  go_wp2_with fail
  with_reducible refine HBE.out.mono ?_
  generalize w.alloc (.cells #[.int .i64 0, .int .i64 (-1), .int .i64 1, .int .i64 2] 3) = w0 at *
  rintro e w1 ⟨vP, vE, rfl, hP, hE, hb⟩
  obtain ⟨AP, cP, rfl, hcP, hCP⟩ := hP.C
  obtain ⟨AE, cE, rfl, hcE, hCE⟩ := hE.C
  have HB1 := Aside0.mk (HB0.out.trans (hb.mono HB0.out.size))
  have HC1 := Aside0.mk (Kd.C_below HC0.out hb)
  have HP1 : Aside0 (Kd.C (Kd.int .i64) w1 AP 1 [0]) := ⟨hCP⟩
  have HE1 : Aside0 (Kd.C (Kd.int .i64) w1 AE 1 [-1]) := ⟨hCE⟩
  have hcP1 : 1 ≤ cP := hcP
  have hcE1 : 1 ≤ cE := hcE
  clear hb hP hE hcP hcE hCP hCE HB0 HC0 HBE
  have HN := Aside0.mk (blk_new w1 (.cells zRice 24 (0, 0)))
  have hbN := below_setRow (below_alloc (Below.refl w1.heap.size w1) (.cells zRice 24 (0, 0))) (Nat.le_refl _) #[.int .i64 0, .int .i64 0, .slice AP 1 cP, .slice AE 1 cE]
  have HX2 := Aside0.mk (setRow_heap _ _ _ #[.int .i64 0, .int .i64 0, .slice AP 1 cP, .slice AE 1 cE] _ _ HN.out)
  have HB2 := Aside0.mk (HB1.out.trans (hbN.mono HB1.out.size))
  have HC2 := Aside0.mk (Kd.C_below HC1.out hbN)
  have HP2 := Aside0.mk (Kd.C_below HP1.out hbN)
  have HE2 := Aside0.mk (Kd.C_below HE1.out hbN)
  clear hbN HC1 HP1 HE1
  go_upto_region 3 with ((with_reducible refine wpList_store_row ?_ 24 (.tmp 2) (.tmp 14) ?_ (w1.heap.size) (#[.int .i64 0, .int .i64 0, .slice AP 1 cP, .slice AE 1 cE]) ?_ ?_ 24 (zRice) (HN.out) (rc_info _ _ _ _) ?_ (rc_one _ _ _ _ _ _ _ _) ?_); rfl; rfl; rfl; rfl; rfl)
  generalize (w1.alloc (.cells zRice 24 (0, 0))).setRow w1.heap.size #[.int .i64 0, .int .i64 0, .slice AP 1 cP, .slice AE 1 cE] = w2 at *
  generalize w1.heap.size = g2 at *
  clear HN
  have HW3 := Aside0.mk (new_at w2 w2.heap.size (Nat.le_refl _))
  have hb3 := below_alloc (Below.refl w2.heap.size w2) (.cells #[.int .i64 0, .slice none 0 0] 64)
  go_wp2_with fail
  refine (New_any _).mono ?_
  rintro e w3 ⟨rfl, rfl⟩
  generalize w2.alloc (.cells #[.int .i64 0, .slice none 0 0] 64) = w3 at HW3 hb3 ⊢
  have hsz : w.heap.size ≤ w2.heap.size := HB2.out.size
  have hg2 : g2 < w2.heap.size := blk_lt HX2.out
  have hLP : ListAt w3 w2.heap.size (.slice none 0 0) AP [0] := ListAt.elder HP2.out hb3 (Nat.le_refl _) (fun k hk => by simp [Value.ownBlock] at hk)
  have hLE : ListAt w3 w2.heap.size (.slice none 0 0) AE [-1] := ListAt.elder HE2.out hb3 (Nat.le_refl _) (fun k hk => by simp [Value.ownBlock] at hk)
  have hLL : ListAt w3 w2.heap.size (.slice none 0 0) (some ⟨w.heap.size, 0, none⟩) [0, -1, 1, 2] := ListAt.elder HC2.out hb3 (Nat.le_refl _) (fun k hk => by simp [Value.ownBlock] at hk)
  have hen := Encode_any 0 0 4 0 AP AE (some ⟨w.heap.size, 0, none⟩) cP cE 4 [0] [-1] [0, -1, 1, 2] [] w2.heap.size w2.heap.size (.slice none 0 0) w3 (by decide) (by decide) span4 hcP1 hcE1 (by simp) HW3.out hLP hLE hLL (by simp)
  rw [if_pos can4, if_pos can4, List.nil_append] at hen
  have HEN : Aside0 (Calls Try.prog 13 #[.pointer (some ⟨w2.heap.size, 0, none⟩), .agg #[.int .i64 0, .int .i64 0, .slice AP 1 cP, .slice AE 1 cE], .int .i64 4, .int .i64 0, .slice (some ⟨w.heap.size, 0, none⟩) 4 4] w3 fun e w' => e = .returned (.int .i64 0) ∧ ∃ v', WAt w' w2.heap.size w2.heap.size v' (bitsE 0 0 [0] [-1] 4 0 [0, -1, 1, 2]) ∧ Moved w2.heap.size w2.heap.size w3 (.slice none 0 0) w' v') := ⟨hen⟩
  have hb3' : Below w2.heap.size w2 w3 := hb3
  have HX3 := Aside0.mk (blk_below HX2.out hb3)
  have HBB3 := Aside0.mk hb3'
  have c0 := blk_cell HX3.out 0
  have c1 := blk_cell HX3.out 1
  have c2 := blk_cell HX3.out 2
  have c3 := blk_cell HX3.out 3
  clear hen hb3 hb3' hLP hLE hLL HW3
  go_wp2_with fail
  with_reducible refine HEN.out.mono ?_
  rintro e w4 ⟨rfl, v4, hw4, hm4⟩
  have HB4 := Aside0.mk (HBB3.out.trans hm4.below)
  have HW4 := Aside0.mk hw4
  have HLEN := Aside0.mk len4
  have HDEC := Aside0.mk dec4
  clear hw4 hm4 HBB3 HX3 c0 c1 c2 c3 HEN
  generalize bitsE 0 0 [0] [-1] 4 0 [0, -1, 1, 2] = bx at HW4 HLEN HDEC
  have HBY := Aside0.mk (Bytes_any bx _ _ v4 w4 HW4.out)
  have HSS : Aside0 ((strOfNums (pack bx)).size = 3) := ⟨by rw [pack_size, HLEN.out]⟩
  generalize strOfNums (pack bx) = s at HBY HDEC HSS
  go_wp2_with fail
  with_reducible refine HBY.out.mono ?_
  rintro e w4' ⟨rfl, rfl⟩
  clear HBY
  go_wp2_with fail
  with_reducible refine (Of_any s w4).mono ?_
  rintro e w5 ⟨rfl, rfl⟩
  have hR5 : RAt (w4.alloc (.cells #[.int .i64 0, .string s] 75)) w4.heap.size s 0 := blk_new w4 _
  have hb5 := below_alloc (Below.refl w4.heap.size w4) (.cells #[.int .i64 0, .string s] 75)
  generalize w4.alloc (.cells #[.int .i64 0, .string s] 75) = w5 at hR5 hb5 ⊢
  have hde := Decode_any s (by rw [HSS.out]; decide) 0 (Nat.zero_le _) 4 0 w4.heap.size w4.heap.size (Nat.le_refl _) w5 hb5.size hR5
  rw [HDEC.out] at hde
  have HDE := Aside0.mk hde
  have HB5 := Aside0.mk hb5
  clear hR5 hb5 hde
  go_wp2_with fail
  with_reducible refine HDE.out.mono ?_
  rintro e w6 ⟨vl, vP', vE', rfl, hl6, hp6, he6, ⟨q, hr6, hq6, hq0⟩, ht6⟩
  have hq21 : q = 21 := hq0 (by first | rfl | trivial)
  subst hq21
  have HB6 := Aside0.mk (HB5.out.trans ht6.below)
  obtain ⟨AL, cL, rfl, hcL, hCL⟩ := hl6.C
  obtain ⟨AP', cP', rfl, hcP', hCP'⟩ := hp6.C
  obtain ⟨AE', cE', rfl, hcE', hCE'⟩ := he6.C
  have HL6 : Aside0 (Kd.C (Kd.int .i64) w6 AL 4 [0, -1, 1, 2]) := ⟨hCL⟩
  have HP6 : Aside0 (Kd.C (Kd.int .i64) w6 AP' 1 [0]) := ⟨hCP'⟩
  have HE6 : Aside0 (Kd.C (Kd.int .i64) w6 AE' 1 [-1]) := ⟨hCE'⟩
  have HR6 := Aside0.mk hr6
  have hcL4 : 4 ≤ cL := hcL
  have hcP4 : 1 ≤ cP' := hcP'
  have hcE4 : 1 ≤ cE' := hcE'
  clear hl6 hp6 he6 hr6 hq6 hq0 ht6 hCL hCP' hCE' hcL hcP' hcE' HDE HB5
  have HN := Aside0.mk (blk_new w6 (.cells zRice 24 (0, 0)))
  have hbN := below_setRow (below_alloc (Below.refl w6.heap.size w6) (.cells zRice 24 (0, 0))) (Nat.le_refl _) #[.int .i64 0, .int .i64 0, .slice AP' 1 cP', .slice AE' 1 cE']
  have HX7 := Aside0.mk (setRow_heap _ _ _ #[.int .i64 0, .int .i64 0, .slice AP' 1 cP', .slice AE' 1 cE'] _ _ HN.out)
  have HB7 := Aside0.mk hbN
  clear hbN
  go_upto_region 11 with ((with_reducible refine wpList_store_row ?_ 24 (.tmp 8) (.tmp 32) ?_ (w6.heap.size) (#[.int .i64 0, .int .i64 0, .slice AP' 1 cP', .slice AE' 1 cE']) ?_ ?_ 24 (zRice) (HN.out) (rc_info _ _ _ _) ?_ (rc_one _ _ _ _ _ _ _ _) ?_); rfl; rfl; rfl; rfl; rfl)
  generalize (w6.alloc (.cells zRice 24 (0, 0))).setRow w6.heap.size #[.int .i64 0, .int .i64 0, .slice AP' 1 cP', .slice AE' 1 cE'] = w7 at *
  clear HN
  have HF : Aside0 (∀ W, Below w7.heap.size w7 W → WAt W w2.heap.size w2.heap.size v4 bx ∧ RAt W w4.heap.size s 21 ∧ W.heap[g2]? = some (.cells #[.int .i64 0, .int .i64 0, .slice AP 1 cP, .slice AE 1 cE] 24 (0, 0)) ∧ W.heap[w6.heap.size]? = some (.cells #[.int .i64 0, .int .i64 0, .slice AP' 1 cP', .slice AE' 1 cE'] 24 (0, 0)) ∧
      Kd.C (Kd.int .i64) W (some ⟨w.heap.size, 0, none⟩) 4 [0, -1, 1, 2] ∧ Kd.C (Kd.int .i64) W AP 1 [0] ∧ Kd.C (Kd.int .i64) W AE 1 [-1] ∧ Kd.C (Kd.int .i64) W AL 4 [0, -1, 1, 2] ∧ Kd.C (Kd.int .i64) W AP' 1 [0] ∧ Kd.C (Kd.int .i64) W AE' 1 [-1] ∧ Below w.heap.size w W) := ⟨fun W hW => by
    have h67 : Below w6.heap.size w6 W := HB7.out.trans (hW.mono HB7.out.size)
    have h47 : Below w4.heap.size w4 W := HB6.out.trans (h67.mono HB6.out.size)
    have h27 : Below w2.heap.size w2 W := HB4.out.trans (h47.mono HB4.out.size)
    exact ⟨HW4.out.below h47, HR6.out.below h67, blk_below HX2.out h27, blk_below HX7.out hW, Kd.C_below HC2.out h27, Kd.C_below HP2.out h27, Kd.C_below HE2.out h27, Kd.C_below HL6.out h67, Kd.C_below HP6.out h67, Kd.C_below HE6.out h67, HB2.out.trans (h27.mono hsz)⟩⟩
  clear HB2 HX2 HC2 HP2 HE2 HB4 HW4 HB6 HL6 HP6 HE6 HR6 HX7 HB7 HSS HDEC
  generalize w2.heap.size = gw at *
  generalize w4.heap.size = gr at *
  generalize w6.heap.size = g7 at *
  obtain ⟨f1, f2, f3, f4, f5, f6, f7, f8, f9, f10, f11⟩ := HF.out w7 (Below.refl _ _)
  have c2 := blk_cell f3 2
  obtain ⟨adP, rfl, hxP⟩ := C_cell f6 0 (by decide)
  rw [Addr.add_zero'] at hxP
  have HLE := fun W hW => Len_any bx gw gw v4 W (HF.out W hW).1
  rw [HLEN.out] at HLE
  have HLE := Aside0.mk HLE
  have HIN : Aside0 (∀ W, Below w7.heap.size w7 W → Calls Try.prog 23 #[.slice AL 4 cL, .slice (some ⟨w.heap.size, 0, none⟩) 4 4] W fun e w' => e = .returned (.bool true) ∧ Drawn0 W w') := ⟨fun W hW => Ints_same [0, -1, 1, 2] (by decide) AL cL (some ⟨w.heap.size, 0, none⟩) 4 W (HF.out W hW).2.2.2.2.2.2.2.1 hcL4 (HF.out W hW).2.2.2.2.1 (by decide)⟩
  have HSA : Aside0 (∀ W, Below w7.heap.size w7 W → Calls Try.prog 24 #[.agg #[.int .i64 0, .int .i64 0, .slice (some adP) 1 cP, .slice AE 1 cE], .agg #[.int .i64 0, .int .i64 0, .slice AP' 1 cP', .slice AE' 1 cE']] W fun e w' => e = .returned (.bool true) ∧ Below W.heap.size W w') := ⟨fun W hW =>
    Same_same 0 0 [0] [-1] (by decide) (by decide) (some adP) AE AP' AE' cP cE cP' cE' W (HF.out W hW).2.2.2.2.2.1 hcP1 (HF.out W hW).2.2.2.2.2.2.1 hcE1 (HF.out W hW).2.2.2.2.2.2.2.2.1 hcP4 (HF.out W hW).2.2.2.2.2.2.2.2.2.1 hcE4⟩
  have HAT := Aside0.mk (fun W hW => At_any s 21 gr W (HF.out W hW).2.1)
  have HCO : Aside0 (∀ W (k : Int), Below w7.heap.size w7 W → Calls Try.prog 28 #[.slice (some ⟨w.heap.size, 0, none⟩) 4 4, .int .i64 k] W fun e w' => e = .returned (.int .i64 (costF [0, -1, 1, 2] k)) ∧ Drawn0 W w') := ⟨fun W k hW => Cost_any [0, -1, 1, 2] k (some ⟨w.heap.size, 0, none⟩) 4 W (by decide) span4 (HF.out W hW).2.2.2.2.1 (by decide)⟩
  clear f1 f2 f3 f4 f5 f6 f7 f8 f9 f10 f11
  go_wp2_with fail
  with_reducible refine (HLE.out _ (Below.refl _ _)).mono ?_
  rintro e w8 ⟨rfl, rfl⟩
  clear c2 hxP
  go_wp2_with fail
  with_reducible refine (HIN.out _ (Below.refl _ _)).mono ?_
  rintro e w8 ⟨rfl, hd8⟩
  have HB8 : Aside0 (Below w7.heap.size w7 w8) := ⟨hd8.below⟩
  clear hd8
  obtain ⟨f1, f2, f3, f4, f5, f6, f7, f8, f9, f10, f11⟩ := HF.out w8 HB8.out
  have c0 := blk_cell f3 0
  have c1 := blk_cell f3 1
  have c2 := blk_cell f3 2
  have c3 := blk_cell f3 3
  have d0 := blk_cell f4 0
  have d1 := blk_cell f4 1
  have d2 := blk_cell f4 2
  have d3 := blk_cell f4 3
  clear f1 f2 f3 f4 f5 f6 f7 f8 f9 f10 f11
  go_wp2_with fail
  with_reducible refine (HSA.out _ HB8.out).mono ?_
  rintro e w9 ⟨rfl, hb9⟩
  have HB9 : Aside0 (Below w7.heap.size w7 w9) := ⟨HB8.out.trans (hb9.mono HB8.out.size)⟩
  clear hb9 c0 c1 c2 c3 d0 d1 d2 d3
  go_wp2_with fail
  with_reducible refine (HAT.out _ HB9.out).mono ?_
  rintro e w10 ⟨rfl, hd10⟩
  have HB10 : Aside0 (Below w7.heap.size w7 w10) := ⟨HB9.out.trans (hd10.below.mono HB9.out.size)⟩
  clear hd10
  go_wp2_with fail
  with_reducible refine (HCO.out _ _ HB10.out).mono ?_
  rw [cost41]
  rintro e w11 ⟨rfl, hd11⟩
  have HB11 : Aside0 (Below w7.heap.size w7 w11) := ⟨HB10.out.trans (hd11.below.mono HB10.out.size)⟩
  clear hd11
  go_wp2_with fail
  with_reducible refine (HCO.out _ _ HB11.out).mono ?_
  rw [cost4n]
  rintro e w12 ⟨rfl, hd12⟩
  have HB12 : Aside0 (Below w7.heap.size w7 w12) := ⟨HB11.out.trans (hd12.below.mono HB11.out.size)⟩
  clear hd12
  go_wp2
  go_ret
  exact ⟨rfl, (HF.out _ HB12.out).2.2.2.2.2.2.2.2.2.2⟩
end Go.Proofs.Ytfhekkoibmlmpaa.Hand

/- Contracts of layer 8, proved by hand: the reference's Best, its words. -/
namespace Go.Proofs.Ytfhekkoibmlmpaa.Hand
open Go.RowKit Go.Proofs.Ytfhekkoibmlmpaa.Q Go.Proofs.YtfhekkoibmlmpaaW.PrintWords Go.Proofs.YtfhekkoibmlmpaaW.PrintLast Go.Proofs.YtfhekkoibmlmpaaW.PrintMore
set_option linter.unusedVariables false
set_option linter.unusedSimpArgs false

/-- A recipe that grows, in a block of its own. -/
structure RTry (w0 : World) (b11 : Nat) (o : Int) (wr : World) (vP vE : Value) (ps es : List Int) : Prop where
  bel : Below w0.heap.size w0 wr
  r11 : wr.heap[b11]? = some (.cells #[.int .i64 0, .int .i64 o, vP, vE] 24 (0, 0))
  P : IntsAt wr w0.heap.size vP ps
  E : IntsAt wr w0.heap.size vE es
  d3 : Dis vP vE
theorem RTry.below {w0 : World} {b11 : Nat} {o : Int} {wr w' : World} {vP vE : Value} {ps es : List Int} (h : RTry w0 b11 o wr vP vE ps es) (hb : Below wr.heap.size wr w') : RTry w0 b11 o w' vP vE ps es :=
  ⟨h.bel.trans (hb.mono h.bel.size), blk_below h.r11 hb, h.P.below hb, h.E.below hb, h.d3⟩
theorem RTry.two {w0 : World} {b11 : Nat} {o o' : Int} {W0 W : World} {vP vE vP' vE' : Value} {ps es ps' es' : List Int} (h : RTry w0 b11 o W0 vP vE ps es)
    (ht : TwoRows w0.heap.size b11 24 W0 vP vE W #[.int .i64 0, .int .i64 o', vP', vE'] vP' vE' ps' es') : RTry w0 b11 o' W vP' vE' ps' es' :=
  ⟨h.bel.trans ht.below, ht.box, ht.P, ht.E, ht.dis⟩
end Go.Proofs.Ytfhekkoibmlmpaa.Hand

/- Contracts of layer 8, proved by hand: RiceBest. -/
namespace Go.Proofs.Ytfhekkoibmlmpaa.Hand
open Go.RowKit Go.Proofs.Ytfhekkoibmlmpaa.Q Go.Proofs.YtfhekkoibmlmpaaW.PrintWords Go.Proofs.YtfhekkoibmlmpaaW.PrintLast Go.Proofs.YtfhekkoibmlmpaaW.PrintMore
set_option linter.unusedVariables false
set_option linter.unusedSimpArgs false

theorem C_len {w : World} {A : Option Addr} {xs : List Int} (h : Kd.C (Kd.int .i64) w A xs.length xs) : xs.length ≤ 9223372036854775807 := h.2.1
end Go.Proofs.Ytfhekkoibmlmpaa.Hand

/- Plain words of layer 1: the reference's reader gives what the reader gives. -/
namespace Go.Proofs.Ytfhekkoibmlmpaa.Hand
open Go.RowKit Go.Proofs.Ytfhekkoibmlmpaa.Q Go.Proofs.YtfhekkoibmlmpaaW.PrintWords Go.Proofs.YtfhekkoibmlmpaaW.PrintLast Go.Proofs.YtfhekkoibmlmpaaW.PrintMore
set_option linter.unusedVariables false
set_option linter.unusedSimpArgs false

theorem bt_nat (s : ByteArray) (j : Nat) (h : j < s.size) : bt s (j : Int) = ((s[j]'h).toNat : Int) := by
  unfold bt
  rw [dif_pos (by simpa using h)]
  rfl
theorem rbit (s : ByteArray) (hs : s.size ≤ 281474976710656) (p : Int) (q : Nat) (hq : q < 8 * s.size) : lacquerref01_R_bit.f s p (q : Int) = some (((tb s q).toNat : Int), s, p) := by
  have hj : q / 8 < s.size := by omega
  have e1 : wrap64 (Int.tdiv (q : Int) 8) = ((q / 8 : Nat) : Int) := by
    rw [Int.tdiv_eq_ediv_of_nonneg (by omega), wrap_id _ (by omega) (by omega)]; omega
  have e2 : IntKind.u64.wrap (wrap64 (7 - Int.tmod (q : Int) 8)) = ((7 - q % 8 : Nat) : Int) := by
    rw [Int.tmod_eq_emod_of_nonneg (by omega), wrap_id _ (by omega) (by omega), u64_wrap]; omega
  have hp := peek_bit s q (q / 8) (q % 8) hj rfl rfl
  have hlt : (s[q / 8]'hj).toNat < 256 := (s[q / 8]'hj).toNat_lt
  have e3 : shr .u8 (bt s ((q / 8 : Nat) : Int)) ((7 - q % 8 : Nat) : Int) = ((s[q / 8]'hj).toNat : Int) / 2 ^ (7 - q % 8) := by
    unfold shr
    rw [bt_nat s _ hj, Int.toNat_natCast, Nat.min_eq_left (by simp [IntKind.bits]; omega)]
  have e4 : ((s[q / 8]'hj).toNat : Int) / 2 ^ (7 - q % 8) = (((s[q / 8]'hj).toNat / 2 ^ (7 - q % 8) : Nat) : Int) := by simp
  have hle : (s[q / 8]'hj).toNat / 2 ^ (7 - q % 8) ≤ (s[q / 8]'hj).toNat := Nat.div_le_self _ _
  unfold lacquerref01_R_bit.f
  rw [e1, if_pos (by omega), if_pos (by omega), e2, if_pos (by omega), e3]
  rw [e4] at hp ⊢
  generalize (s[q / 8]'hj).toNat / 2 ^ (7 - q % 8) = y at hp hle ⊢
  rw [and_mask_u64 1 (by decide) _ 1 (by omega) (by omega) rfl] at hp
  rw [wrap_id _ (by omega) (by omega), and_mask_i64 1 (by decide) _ 1 (by omega) (by omega) rfl, hp]
theorem rget_loop (s : ByteArray) (hs : s.size ≤ 281474976710656) (p W : Nat) (hW : W ≤ 64) (hp : p + W ≤ 8 * s.size) : ∀ d i : Nat, i + d = W → Ev (fun k => lacquerref01_R_Get.l0 k (W : Int) (numAt s p i : Int) (i : Int) s (p : Int)) ((numAt s p W : Int), 0, s, ((p + W : Nat) : Int))
  | 0, i, e => by
    refine Ev.step (fun k => lacquerref01_R_Get.l0.eq_2 _ _ _ _ _ _) ?_
    obtain rfl : i = W := by omega
    simp only [show ¬ (i : Int) < (i : Int) by omega, if_false, wrap_id ((p : Int) + (i : Int)) (by omega) (by omega)]
    exact Ev.now _
  | d + 1, i, e => by
    refine Ev.step (fun k => lacquerref01_R_Get.l0.eq_2 _ _ _ _ _ _) ?_
    have e1 : wrap64 ((p : Int) + (i : Int)) = ((p + i : Nat) : Int) := by rw [wrap_id _ (by omega) (by omega)]; omega
    have hlt : numAt s p i < 9223372036854775808 := Nat.lt_of_lt_of_le (numAt_lt s p i) (by
      have : i ≤ 63 := by omega
      exact Nat.pow_le_pow_right (by decide) this)
    have hnx := numAt_succ s p i
    have hb : (tb s (p + i)).toNat < 2 := by cases tb s (p + i) <;> decide
    simp only [show ((i : Int) < (W : Int)) by omega, if_true, e1, rbit s hs (p : Int) (p + i) (by omega), Option.bind_some]
    have e2 : IntKind.u64.wrap (IntKind.u64.wrap ((numAt s p i : Int) * 2) + IntKind.u64.wrap ((tb s (p + i)).toNat : Int)) = ((numAt s p (i + 1) : Nat) : Int) := by
      rw [u64_wrap, u64_wrap, u64_wrap, hnx]; omega
    have e3 : wrap64 ((i : Int) + 1) = ((i + 1 : Nat) : Int) := by rw [wrap_id _ (by omega) (by omega)]; omega
    rw [e2, e3]
    exact rget_loop s hs p W hW hp d (i + 1) (by omega)
theorem rleft (s : ByteArray) (hs : s.size ≤ 281474976710656) (p : Nat) (hp : p ≤ 8 * s.size) : lacquerref01_R_Left.f s (p : Int) = some (((8 * s.size - p : Nat) : Int), s, (p : Int)) := by
  unfold lacquerref01_R_Left.f
  rw [wrap_id ((s.size : Int) * 8) (by omega) (by omega), wrap_id _ (by omega) (by omega)]
  congr 2
  omega
theorem rget (s : ByteArray) (hs : s.size ≤ 281474976710656) (p : Nat) (hp : p ≤ 8 * s.size) (k : Int) : Ev (fun n => lacquerref01_R_Get.f n s (p : Int) k) (((getR s p k).1 : Int), (getR s p k).2.1, s, ((getR s p k).2.2 : Int)) := by
  unfold lacquerref01_R_Get.f
  by_cases h1 : k < 0
  · have he : getR s p k = (0, 11, p) := if_pos (.inl h1)
    simp only [h1, if_true, he]
    refine Ev.step (fun n => lacquerref01_R_Get.j0.eq_2 _ _ _ _ _) ?_
    simp only [if_true]
    exact Ev.now _
  · by_cases h2 : 64 < k
    · have he : getR s p k = (0, 11, p) := if_pos (.inr h2)
      simp only [h1, if_false, he, show decide (k > 64) = true from decide_eq_true h2]
      refine Ev.step (fun n => lacquerref01_R_Get.j0.eq_2 _ _ _ _ _) ?_
      simp only [if_true]
      exact Ev.now _
    · obtain ⟨K, rfl⟩ : ∃ K : Nat, k = (K : Int) := ⟨k.toNat, by omega⟩
      simp only [h1, if_false, show decide ((K : Int) > 64) = false from decide_eq_false h2]
      refine Ev.step (fun n => lacquerref01_R_Get.j0.eq_2 _ _ _ _ _) ?_
      simp only [Bool.false_eq_true, if_false, rleft s hs p hp, Option.bind_some]
      by_cases h3 : ((8 * s.size - p : Nat) : Int) < (K : Int)
      · have he : getR s p K = (0, 10, p) := by unfold getR; rw [if_neg (by omega), if_pos h3]
        simp only [h3, if_true, he]
        exact Ev.now _
      · have he : getR s p K = (numAt s p K, 0, p + K) := by unfold getR; rw [if_neg (by omega), if_neg h3]; rfl
        simp only [h3, if_false, he]
        exact rget_loop s hs p K (by omega) (by omega) K 0 (by omega)
theorem runary_loop (s : ByteArray) (hs : s.size ≤ 281474976710656) (p : Nat) (hp : p ≤ 8 * s.size) : ∀ d n : Nat, n + d = 8 * s.size - p → n ≤ zeros s p (8 * s.size - p) → n ≤ 16777217 →
    Ev (fun k => lacquerref01_R_Unary.l0 k (n : Int) ((p + n : Nat) : Int) s (p : Int)) (((unaryR s p).1 : Int), (unaryR s p).2.1, s, ((unaryR s p).2.2 : Int)) := by
  have e8 : wrap64 ((s.size : Int) * 8) = ((8 * s.size : Nat) : Int) := by rw [wrap_id _ (by omega) (by omega)]; omega
  intro d
  induction d with
  | zero =>
    intro n e hz hn
    refine Ev.step (fun k => lacquerref01_R_Unary.l0.eq_2 _ _ _ _ _) ?_
    have hzz : zeros s p (8 * s.size - p) = 8 * s.size - p := by have := zeros_le s (8 * s.size - p) p; omega
    by_cases h1 : 16777216 < n
    · have he : unaryR s p = (0, 11, p) := by unfold unaryR; rw [if_pos (by omega)]
      simp only [show (n : Int) > 16777216 by omega, if_true, he]
      exact Ev.now _
    · have he : unaryR s p = (0, 10, p) := by unfold unaryR; rw [if_neg (by omega), if_pos hzz]
      simp only [show ¬ (n : Int) > 16777216 by omega, if_false, e8, show ((p + n : Nat) : Int) ≥ ((8 * s.size : Nat) : Int) by omega, if_true, he]
      exact Ev.now _
  | succ d ih =>
    intro n e hz hn
    refine Ev.step (fun k => lacquerref01_R_Unary.l0.eq_2 _ _ _ _ _) ?_
    by_cases h1 : 16777216 < n
    · have he : unaryR s p = (0, 11, p) := by unfold unaryR; rw [if_pos (by omega)]
      simp only [show (n : Int) > 16777216 by omega, if_true, he]
      exact Ev.now _
    · simp only [show ¬ (n : Int) > 16777216 by omega, if_false, e8, show ¬ ((p + n : Nat) : Int) ≥ ((8 * s.size : Nat) : Int) by omega, rbit s hs (p : Int) (p + n) (by omega), Option.bind_some]
      by_cases hb : n = zeros s p (8 * s.size - p)
      · have ht : tb s (p + n) = true := by
          rw [hb]
          exact zeros_end s (8 * s.size - p) p (by omega)
        have he : unaryR s p = (n, 0, p + n + 1) := by
          unfold unaryR
          rw [if_neg (by omega), if_neg (by omega), ← hb]
        simp only [ht, he, show ((true.toNat : Nat) : Int) = 1 from rfl, if_true]
        have e3 : wrap64 (((p + n : Nat) : Int) + 1) = ((p + n + 1 : Nat) : Int) := by rw [wrap_id _ (by omega) (by omega)]; omega
        rw [e3]
        exact Ev.now _
      · have ht : tb s (p + n) = false := zeros_bit s (8 * s.size - p) p n (by omega)
        simp only [ht, show ¬ ((false.toNat : Nat) : Int) = 1 by decide, if_false]
        have e3 : wrap64 (((p + n : Nat) : Int) + 1) = ((p + (n + 1) : Nat) : Int) := by rw [wrap_id _ (by omega) (by omega)]; omega
        have e4 : wrap64 ((n : Int) + 1) = ((n + 1 : Nat) : Int) := by rw [wrap_id _ (by omega) (by omega)]; omega
        rw [e3, e4]
        exact ih (n + 1) (by omega) (by omega) (by omega)
theorem runary (s : ByteArray) (hs : s.size ≤ 281474976710656) (p : Nat) (hp : p ≤ 8 * s.size) : Ev (fun n => lacquerref01_R_Unary.f n s (p : Int)) (((unaryR s p).1 : Int), (unaryR s p).2.1, s, ((unaryR s p).2.2 : Int)) := by
  unfold lacquerref01_R_Unary.f
  exact runary_loop s hs p hp (8 * s.size - p) 0 (by omega) (by omega) (by omega)
end Go.Proofs.Ytfhekkoibmlmpaa.Hand
namespace Go.Proofs.Ytfhekkoibmlmpaa.Hand
open Go.RowKit Go.Proofs.Ytfhekkoibmlmpaa.Q Go.Proofs.YtfhekkoibmlmpaaW.PrintWords Go.Proofs.YtfhekkoibmlmpaaW.PrintLast Go.Proofs.YtfhekkoibmlmpaaW.PrintMore
set_option linter.unusedVariables false
set_option linter.unusedSimpArgs false

theorem sign_neg (n X : Nat) (h1 : X ≤ n) (h2 : n < 2 * X) (hX : X ≤ 4611686018427387904) : wrap64 (wrap64 (n : Int) - IntKind.i64.wrap (1 * ((2 * X : Nat) : Int))) = (n : Int) - ((2 * X : Nat) : Int) := by
  rw [i64_w, wrap_id (n : Int) (by omega) (by omega)]
  unfold wrap64
  omega
theorem rsigned (s : ByteArray) (hs : s.size ≤ 281474976710656) (p : Nat) (hp : p ≤ 8 * s.size) (k : Int) (hk : k ≤ 64) : Ev (fun n => lacquerref01_R_Signed.f n s (p : Int) k) ((signedR s p k).1, (signedR s p k).2.1, s, ((signedR s p k).2.2 : Int)) := by
  unfold lacquerref01_R_Signed.f
  by_cases h1 : k < 1
  · have he : signedR s p k = (0, 11, p) := by unfold signedR; rw [if_pos h1]
    simp only [h1, if_true, he]
    exact Ev.now _
  · simp only [h1, if_false]
    refine Ev.bind (rget s hs p hp k) ?_
    by_cases h0 : (getR s p k).2.1 = 0
    · obtain ⟨k0, k1, hg⟩ := getR_ok s p k h0
      have he : signedR s p k = (signOf (getR s p k).1 k.toNat, 0, (getR s p k).2.2) := by unfold signedR; rw [if_neg h1, if_pos h0]
      rw [he, hg]
      simp only [if_true]
      obtain ⟨K, rfl⟩ : ∃ K : Nat, k = (K : Int) := ⟨k.toNat, by omega⟩
      rw [Int.toNat_natCast]
      have hlt := numAt_lt s p K
      generalize numAt s p K = n at hlt ⊢
      by_cases h64 : K < 64
      · obtain ⟨X, hX⟩ : ∃ X, 2 ^ (K - 1) = X := ⟨_, rfl⟩
        have h2 : 2 ^ K = 2 * X := by
          rw [← hX, ← Nat.pow_succ']
          congr 1
          omega
        have hX1 : X ≤ 2 ^ 62 := by rw [← hX]; exact Nat.pow_le_pow_right (by decide) (by omega)
        have hX0 : 0 < X := by rw [← hX]; exact Nat.two_pow_pos _
        rw [h2] at hlt
        have e1 : IntKind.u64.wrap (wrap64 ((K : Int) - 1)) = ((K - 1 : Nat) : Int) := by rw [wrap_id _ (by omega) (by omega), u64_wrap]; omega
        have e2 : shr .u64 (n : Int) ((K - 1 : Nat) : Int) = ((n / X : Nat) : Int) := by
          unfold shr
          rw [Int.toNat_natCast, Nat.min_eq_left (by simp [IntKind.bits]; omega), ← hX]
          simp
        have e3 : IntKind.u64.wrap (K : Int) = (K : Int) := by rw [u64_wrap]; omega
        have e4 : shl .i64 1 (K : Int) = IntKind.i64.wrap (1 * ((2 * X : Nat) : Int)) := by
          unfold shl
          rw [Int.toNat_natCast, Nat.min_eq_left (by simp [IntKind.bits]; omega)]
          have : (2 : Int) ^ K = ((2 ^ K : Nat) : Int) := (Int.natCast_pow 2 K).symm
          rw [this, h2]
        have hso : signOf n K = if n < X then (n : Int) else (n : Int) - ((2 * X : Nat) : Int) := by
          unfold signOf
          have : (2 : Int) ^ K = ((2 ^ K : Nat) : Int) := (Int.natCast_pow 2 K).symm
          rw [this, hX, h2]
        simp only [show ((K : Int) < 64) by omega, if_true, e1, show (0 : Int) ≤ ((K - 1 : Nat) : Int) by omega, e2, e3, show (0 : Int) ≤ (K : Int) by omega, e4, hso]
        by_cases hn : n < X
        · have : n / X = 0 := Nat.div_eq_of_lt hn
          simp only [this, show ¬ (((0 : Nat) : Int) = 1) by decide, if_false, hn, if_true]
          rw [wrap_id (n : Int) (by omega) (by omega)]
          exact Ev.now _
        · have : n / X = 1 := by
            rw [Nat.div_eq_iff hX0]
            omega
          simp only [this, show (((1 : Nat) : Int) = 1) from rfl, if_true, hn, if_false]
          rw [sign_neg n X (by omega) hlt (by omega)]
          exact Ev.now _
      · obtain rfl : K = 64 := by omega
        simp only [show ¬ (((64 : Nat) : Int) < 64) by decide, if_false]
        have hso : signOf n 64 = wrap64 (n : Int) := by
          unfold signOf wrap64
          have e1 : (2 : Nat) ^ (64 - 1) = 9223372036854775808 := by decide
          have e2 : (2 : Int) ^ 64 = 18446744073709551616 := by decide
          have e3 : (2 : Nat) ^ 64 = 18446744073709551616 := by decide
          rw [e3] at hlt
          rw [e1, e2]
          split <;> omega
        rw [hso]
        exact Ev.now _
    · obtain ⟨e1, e2⟩ := getR_err s p k h0
      have he : signedR s p k = (0, (getR s p k).2.1, p) := by unfold signedR; rw [if_neg h1, if_neg h0]
      rw [he, e1]
      simp only [h0, if_false]
      exact Ev.now _
theorem runfold (u : Nat) (hu : u < 9223372036854775808) : lacquerref01_Unfold.f (u : Int) = some (unfoldN u) := by
  unfold lacquerref01_Unfold.f unfoldN
  rw [and_mask_u64 1 (by decide) (u : Int) 1 (by omega) (by omega) rfl, show (2 : Int) ^ 1 = 2 from rfl]
  by_cases h : u % 2 = 0
  · rw [if_pos (by omega), if_pos h, wrap_id _ (by omega) (by omega)]
    congr 1
  · rw [if_neg (by omega), if_neg h, wrap_id ((u : Int) / 2) (by omega) (by omega), wrap_id (-((u : Int) / 2)) (by omega) (by omega), wrap_id _ (by omega) (by omega)]
    congr 1
theorem rrice (s : ByteArray) (hs : s.size ≤ 281474976710656) (p : Nat) (hp : p ≤ 8 * s.size) (k : Int) : Ev (fun n => lacquerref01_R_Rice.f n s (p : Int) k) ((riceR s p k).1, (riceR s p k).2.1, s, ((riceR s p k).2.2 : Int)) := by
  unfold lacquerref01_R_Rice.f
  by_cases h1 : k < 0
  · have he : riceR s p k = (0, 11, p) := if_pos (.inl h1)
    simp only [h1, if_true, he]
    refine Ev.step (fun n => lacquerref01_R_Rice.j0.eq_2 _ _ _ _ _) ?_
    simp only [if_true]
    exact Ev.now _
  · by_cases h2 : 30 < k
    · have he : riceR s p k = (0, 11, p) := if_pos (.inr h2)
      simp only [h1, if_false, he, show decide (k > 30) = true from decide_eq_true h2]
      refine Ev.step (fun n => lacquerref01_R_Rice.j0.eq_2 _ _ _ _ _) ?_
      simp only [if_true]
      exact Ev.now _
    · have hdef : riceR s p k = if (unaryR s p).2.1 = 0 then (if (getR s (unaryR s p).2.2 k).2.1 = 0 then (unfoldN ((unaryR s p).1 * 2 ^ k.toNat + (getR s (unaryR s p).2.2 k).1), 0, (getR s (unaryR s p).2.2 k).2.2) else (0, (getR s (unaryR s p).2.2 k).2.1, p)) else (0, (unaryR s p).2.1, p) := by
        unfold riceR; rw [if_neg (by omega)]
      obtain ⟨K, rfl⟩ : ∃ K : Nat, k = (K : Int) := ⟨k.toNat, by omega⟩
      rw [Int.toNat_natCast] at hdef
      simp only [h1, if_false, show decide ((K : Int) > 30) = false from decide_eq_false h2]
      refine Ev.step (fun n => lacquerref01_R_Rice.j0.eq_2 _ _ _ _ _) ?_
      simp only [Bool.false_eq_true, if_false]
      refine Ev.bind (runary s hs p hp) ?_
      by_cases hu0 : (unaryR s p).2.1 = 0
      · obtain ⟨q1, q2, q3⟩ := unaryR_ok s p hp hu0
        rw [if_pos hu0] at hdef
        simp only [hu0, if_true]
        generalize (unaryR s p).1 = q at q1 q2 hdef ⊢
        generalize (unaryR s p).2.2 = p1 at q2 q3 hdef ⊢
        refine Ev.bind (rget s hs p1 q3 K) ?_
        by_cases hg0 : (getR s p1 K).2.1 = 0
        · obtain ⟨k0, k1, hgr⟩ := getR_ok s p1 K hg0
          rw [if_pos hg0, hgr] at hdef
          rw [hgr]
          rw [Int.toNat_natCast] at hdef ⊢
          have hlt := numAt_lt s p1 K
          have hdef2 : riceR s p K = (unfoldN (q * 2 ^ K + numAt s p1 K), 0, p1 + K) := hdef
          rw [hdef2]
          clear hdef hdef2 hgr hg0
          generalize numAt s p1 K = l at hlt ⊢
          have hpow : 2 ^ K ≤ 2 ^ 30 := Nat.pow_le_pow_right (by decide) (by omega)
          have hq4 : q * 2 ^ K ≤ 16777216 * 2 ^ 30 := Nat.mul_le_mul q1 hpow
          have e3 : IntKind.u64.wrap (K : Int) = (K : Int) := by rw [u64_wrap]; omega
          have e4 : IntKind.u64.wrap (q : Int) = (q : Int) := by rw [u64_wrap]; omega
          have e5 : IntKind.u64.wrap (shl .u64 (q : Int) (K : Int) + (l : Int)) = ((q * 2 ^ K + l : Nat) : Int) := by
            unfold shl
            rw [Int.toNat_natCast, Nat.min_eq_left (by simp [IntKind.bits]; omega)]
            have : (q : Int) * 2 ^ K = ((q * 2 ^ K : Nat) : Int) := by simp
            rw [this]
            generalize q * 2 ^ K = y at hq4 ⊢
            rw [u64_wrap, u64_wrap]
            omega
          simp only [if_true, e3, e4, e5, show (0 : Int) ≤ (K : Int) by omega, runfold (q * 2 ^ K + l) (by omega), Option.bind_some]
          exact Ev.now _
        · rw [if_neg hg0] at hdef
          rw [hdef]
          simp only [hg0, if_false]
          exact Ev.now _
      · obtain ⟨e1, e2⟩ := unaryR_err s p hu0
        rw [if_neg hu0] at hdef
        rw [hdef, e1]
        simp only [hu0, if_false]
        exact Ev.now _
end Go.Proofs.Ytfhekkoibmlmpaa.Hand

/- Contracts of layer 1, proved by hand: the reference's reader in the reader's words. -/
namespace Go.Proofs.Ytfhekkoibmlmpaa.Hand
open Go.RowKit Go.Proofs.Ytfhekkoibmlmpaa.Q Go.Proofs.YtfhekkoibmlmpaaW.PrintWords Go.Proofs.YtfhekkoibmlmpaaW.PrintLast Go.Proofs.YtfhekkoibmlmpaaW.PrintMore
set_option linter.unusedVariables false
set_option linter.unusedSimpArgs false

/-- A reference's reader in block g: its text, its place. -/
def XAt (w : World) (g : Nat) (s : ByteArray) (p : Nat) : Prop := w.heap[g]? = some (.cells #[.string s, .int .i64 p] 49 (0, 0))
theorem XAt.lt {w : World} {g p : Nat} {s : ByteArray} (h : XAt w g s p) : g < w.heap.size := blk_lt h
theorem XAt.below {w w' : World} {g p : Nat} {s : ByteArray} (h : XAt w g s p) (hb : Below w.heap.size w w') : XAt w' g s p := blk_below h hb
theorem xr_ne {w : World} {g g2 p q : Nat} {s t : ByteArray} (hr : RAt w g s p) (hx : XAt w g2 t q) : g ≠ g2 := blk_ne (show w.heap[g]? = _ from hr) hx (by decide)
theorem XAt.turned {w w' : World} {B g g2 p q : Nat} {s t : ByteArray} (hx : XAt w g2 t q) (hr : RAt w g s p) (ht : Turned B g w w') : XAt w' g2 t q := blk_kept hx ht.kept (fun e => xr_ne hr hx e.symm)
section
variable (s : ByteArray) (hs : s.size ≤ 281474976710656) (p : Nat) (hp : p ≤ 8 * s.size) (g : Nat) (w0 w : World) (hg : w0.heap.size ≤ g) (hx : XAt w g s p) (hB : Below w0.heap.size w0 w)
include hs hp hg hx hB
theorem XGet_any (k : Int) : Calls Try.prog 43 #[.pointer (some ⟨g, 0, none⟩), .int .i64 k] w fun e w' => e = .returned (.tuple #[.int .u64 (getR s p k).1, .int .i64 (getR s p k).2.1]) ∧ XAt w' g s (getR s p k).2.2 ∧ Below w0.heap.size w0 w' ∧ KeepBut w w' g none := by
  obtain ⟨n, h⟩ := (rget s hs p hp k).rounds
  exact (lacquerref01_R_Get.calls n g s p k _ _ _ _ w0 w ⟨hx, hg⟩ hB h).mono fun _ _ ⟨h1, h2, h3, h4⟩ => ⟨h1, h2.1, h3, h4⟩
theorem XSigned_any (k : Int) (hk : k ≤ 64) : Calls Try.prog 45 #[.pointer (some ⟨g, 0, none⟩), .int .i64 k] w fun e w' => e = .returned (.tuple #[.int .i64 (signedR s p k).1, .int .i64 (signedR s p k).2.1]) ∧ XAt w' g s (signedR s p k).2.2 ∧ Below w0.heap.size w0 w' ∧ KeepBut w w' g none := by
  obtain ⟨n, h⟩ := (rsigned s hs p hp k hk).rounds
  exact (lacquerref01_R_Signed.calls n g s p k _ _ _ _ w0 w ⟨hx, hg⟩ hB h).mono fun _ _ ⟨h1, h2, h3, h4⟩ => ⟨h1, h2.1, h3, h4⟩
theorem XRice_any (k : Int) : Calls Try.prog 44 #[.pointer (some ⟨g, 0, none⟩), .int .i64 k] w fun e w' => e = .returned (.tuple #[.int .i64 (riceR s p k).1, .int .i64 (riceR s p k).2.1]) ∧ XAt w' g s (riceR s p k).2.2 ∧ Below w0.heap.size w0 w' ∧ KeepBut w w' g none := by
  obtain ⟨n, h⟩ := (rrice s hs p hp k).rounds
  exact (lacquerref01_R_Rice.calls n g s p k _ _ _ _ w0 w ⟨hx, hg⟩ hB h).mono fun _ _ ⟨h1, h2, h3, h4⟩ => ⟨h1, h2.1, h3, h4⟩
end
end Go.Proofs.Ytfhekkoibmlmpaa.Hand

/- Contracts of layer 8, proved by hand: the reference's Decode, its words. -/
namespace Go.Proofs.Ytfhekkoibmlmpaa.Hand
open Go.RowKit Go.Proofs.Ytfhekkoibmlmpaa.Q Go.Proofs.YtfhekkoibmlmpaaW.PrintWords Go.Proofs.YtfhekkoibmlmpaaW.PrintLast Go.Proofs.YtfhekkoibmlmpaaW.PrintMore
set_option linter.unusedVariables false
set_option linter.unusedSimpArgs false

theorem cutW_size {w : World} {B : Nat} (h : B ≤ w.heap.size) : ({ w with heap := w.heap.extract 0 B } : World).heap.size = B := by simp [Nat.min_eq_left h]
theorem cutW_below {w : World} {B : Nat} (h : B ≤ w.heap.size) : Below B { w with heap := w.heap.extract 0 B } w :=
  ⟨rfl, rfl, rfl, by simp; omega, fun k hk => by simp [Array.getElem?_extract, hk]; omega⟩
theorem turned_of {w w' : World} {B g : Nat} (h : B ≤ w.heap.size) (hb : Below B { w with heap := w.heap.extract 0 B } w') (hk : KeepBut w w' g none) : Turned B g w w' :=
  ⟨⟨hb.os, hb.tape, hb.output, hk.1, fun k hk2 => by
    have h2 := hb.block k hk2
    have h3 := (cutW_below h).block k hk2
    exact h2.trans h3.symm⟩, ⟨hk.1, fun i hi hn => hk.2 i hi hn (by simp)⟩⟩
section
variable (s : ByteArray) (hs : s.size ≤ 281474976710656) (p : Nat) (hp : p ≤ 8 * s.size) (B g : Nat) (hB : B ≤ g) (w : World) (hx : XAt w g s p)
include hs hp hB hx
theorem XGet_t (k : Int) : Calls Try.prog 43 #[.pointer (some ⟨g, 0, none⟩), .int .i64 k] w fun e w' => e = .returned (.tuple #[.int .u64 (getR s p k).1, .int .i64 (getR s p k).2.1]) ∧ XAt w' g s (getR s p k).2.2 ∧ Turned B g w w' := by
  have hBw : B ≤ w.heap.size := by have := hx.lt; omega
  have hz := cutW_size hBw
  exact (XGet_any s hs p hp g { w with heap := w.heap.extract 0 B } w (by rw [hz]; exact hB) hx (by rw [hz]; exact cutW_below hBw) k).mono fun _ _ ⟨h1, h2, h3, h4⟩ => ⟨h1, h2, turned_of hBw (by rw [hz] at h3; exact h3) h4⟩
theorem XSigned_t (k : Int) (hk : k ≤ 64) : Calls Try.prog 45 #[.pointer (some ⟨g, 0, none⟩), .int .i64 k] w fun e w' => e = .returned (.tuple #[.int .i64 (signedR s p k).1, .int .i64 (signedR s p k).2.1]) ∧ XAt w' g s (signedR s p k).2.2 ∧ Turned B g w w' := by
  have hBw : B ≤ w.heap.size := by have := hx.lt; omega
  have hz := cutW_size hBw
  exact (XSigned_any s hs p hp g { w with heap := w.heap.extract 0 B } w (by rw [hz]; exact hB) hx (by rw [hz]; exact cutW_below hBw) k hk).mono fun _ _ ⟨h1, h2, h3, h4⟩ => ⟨h1, h2, turned_of hBw (by rw [hz] at h3; exact h3) h4⟩
theorem XRice_t (k : Int) : Calls Try.prog 44 #[.pointer (some ⟨g, 0, none⟩), .int .i64 k] w fun e w' => e = .returned (.tuple #[.int .i64 (riceR s p k).1, .int .i64 (riceR s p k).2.1]) ∧ XAt w' g s (riceR s p k).2.2 ∧ Turned B g w w' := by
  have hBw : B ≤ w.heap.size := by have := hx.lt; omega
  have hz := cutW_size hBw
  exact (XRice_any s hs p hp g { w with heap := w.heap.extract 0 B } w (by rw [hz]; exact hB) hx (by rw [hz]; exact cutW_below hBw) k).mono fun _ _ ⟨h1, h2, h3, h4⟩ => ⟨h1, h2, turned_of hBw (by rw [hz] at h3; exact h3) h4⟩
end
theorem IntsAt.xreader {w w' : World} {B B2 g : Nat} {v : Value} {xs : List Int} {s : ByteArray} {p : Nat} (h : IntsAt w B v xs) (hr : XAt w g s p) (ht : Turned B2 g w w') : IntsAt w' B v xs := h.kept hr (by decide) ht.kept
theorem XAt.list {W w1 : World} {B g : Nat} {v : Value} {xs : List Int} {s : ByteArray} {p : Nat} (hr : XAt W g s p) (h : IntsAt W B v xs) (hg : W.grownBy w1 v.ownBlock) : XAt w1 g s p := h.other hr (by decide) hg
theorem XAt.setRow {w : World} {g b q : Nat} {s : ByteArray} {cs : Array Value} (h : XAt w g s q) (hb : b ≠ g) : XAt (w.setRow b cs) g s q := by
  unfold XAt
  rw [setRow_other w b g cs (fun e => hb e.symm)]
  exact h
structure XDecSt (w : World) (B g b7 b13 : Nat) (s : ByteArray) (m O : Int) (wr : World) (q : Nat) (u vP vE : Value) (al ps es : List Int) : Prop where
  rd : XAt wr g s q
  tn : Turned B g w wr
  z7 : wr.heap[b7]? = some (.cells zRice 24 (0, 0))
  r13 : wr.heap[b13]? = some (.cells #[.int .i64 m, .int .i64 O, vP, vE] 24 (0, 0))
  U : IntsAt wr w.heap.size u al
  P : IntsAt wr w.heap.size vP ps
  E : IntsAt wr w.heap.size vE es
  d1 : Dis u vP
  d2 : Dis u vE
  d3 : Dis vP vE
section
variable {w : World} {B g b7 b13 : Nat} {s : ByteArray} {m O : Int} {wr w' : World} {q q' : Nat} {u vP vE : Value} {al ps es : List Int}
theorem XDecSt.below (h : XDecSt w B g b7 b13 s m O wr q u vP vE al ps es) (hB : B ≤ g) (hb : Below wr.heap.size wr w') : XDecSt w B g b7 b13 s m O w' q u vP vE al ps es :=
  ⟨h.rd.below hb, h.tn.new hb (by have := h.rd.lt; omega), blk_below h.z7 hb, blk_below h.r13 hb, h.U.below hb, h.P.below hb, h.E.below hb, h.d1, h.d2, h.d3⟩
/-- The reader has gone on. -/
theorem XDecSt.turn (h : XDecSt w B g b7 b13 s m O wr q u vP vE al ps es) (hr : XAt w' g s q') (ht : Turned B g wr w') (h7 : b7 ≠ g) (h13 : b13 ≠ g) : XDecSt w B g b7 b13 s m O w' q' u vP vE al ps es :=
  ⟨hr, h.tn.trans ht, blk_kept h.z7 ht.kept h7, blk_kept h.r13 ht.kept h13, h.U.xreader h.rd ht, h.P.xreader h.rd ht, h.E.xreader h.rd ht, h.d1, h.d2, h.d3⟩
/-- All residuals' list has grown. -/
theorem XDecSt.all (h : XDecSt w B g b7 b13 s m O wr q u vP vE al ps es) (hB : B ≤ w.heap.size) {u1 : Value} {al1 : List Int} (hu : IntsAt w' w.heap.size u1 al1) (hg : wr.grownBy w' u.ownBlock) (ho : u1.ownBlock = u.ownBlock ∨ ∃ b, u1.ownBlock = some b ∧ wr.heap.size ≤ b) :
    XDecSt w B g b7 b13 s m O w' q u1 vP vE al1 ps es :=
  ⟨h.rd.list h.U hg, h.tn.list h.U (Nat.le_refl _) hg (h.tn.below.trans (pw_below_grown (Below.refl _ _) _ (by have := h.tn.kept.1; omega) hg (fun k hk => by have := h.U.ge k hk; omega))), h.U.other h.z7 (by decide) hg, h.U.other h.r13 (by decide) hg, hu, h.P.grown h.d1 hg, h.E.grown h.d2 hg, h.d1.grown h.P ho, h.d2.grown h.E ho, h.d3⟩
/-- A row of the recipe's has grown: its list alone, not yet its cell. -/
theorem XDecSt.blk (h : XDecSt w B g b7 b13 s m O wr q u vP vE al ps es) {t : TypeId} {cs : Array Value} {k : Nat} (hb : wr.heap[k]? = some (.cells cs t (0, 0))) (ht : t ≠ 3) (hg : wr.grownBy w' vP.ownBlock) : w'.heap[k]? = some (.cells cs t (0, 0)) := h.P.other hb ht hg
end
/-- The recipe's rows have grown. -/
theorem XDecSt.two {w : World} {B g b7 b13 : Nat} {s : ByteArray} {m O m' O' : Int} {W0 W : World} {q : Nat} {u vP vE vP' vE' : Value} {al ps es ps' es' : List Int} (h : XDecSt w B g b7 b13 s m O W0 q u vP vE al ps es) (h7 : b7 ≠ b13) (hg : g ≠ b13) (hB : B ≤ w.heap.size)
    (ht : TwoRows w.heap.size b13 24 W0 vP vE W #[.int .i64 m', .int .i64 O', vP', vE'] vP' vE' ps' es') : XDecSt w B g b7 b13 s m' O' W q u vP' vE' al ps' es' := by
  have hne : ∀ {k : Nat} {t : TypeId} {cs : Array Value}, W0.heap[k]? = some (.cells cs t (0, 0)) → t ≠ 3 → k ≠ b13 → ¬ (k = b13 ∨ vP.ownBlock = some k ∨ vE.ownBlock = some k) := by
    intro k t cs hk ht hkb hn
    rcases hn with e | e | e
    · exact hkb e
    · exact (Kd.R_ne h.P.all hk (fun e2 => ht e2.symm)) e.symm
    · exact (Kd.R_ne h.E.all hk (fun e2 => ht e2.symm)) e.symm
  refine ⟨blk_kept h.rd ht.kept (hne h.rd (by decide) hg), ⟨h.tn.below.trans (ht.below.mono hB), h.tn.kept.then_ ht.kept (fun k hk => ?_)⟩, blk_kept h.z7 ht.kept (hne h.z7 (by decide) h7), ht.box, ?_, ht.P, ht.E, h.d1.own h.U ht.oP, h.d2.own h.U ht.oE, ht.dis⟩
  · rcases hk with e | e | e
    · right
      have := ht.hC
      omega
    · exact .inr (h.P.ge k e)
    · exact .inr (h.E.ge k e)
  · refine .of (Kd.R_kept h.U ht.kept (fun k hk hn => ?_))
    rcases hn with e | e | e
    · subst e
      exact (Kd.R_ne h.U.all h.r13 (by decide)) hk.symm
    · exact h.d1 k hk e
    · exact h.d2 k hk e

theorem valsR_bad (s : ByteArray) (k esc : Int) : ∀ (d : Nat) (acc : List Int) (e : Int) (p : Nat), e ≠ 0 → (valsR s k esc d acc e p).2.1 = e
  | 0, acc, e, p, h => rfl
  | d + 1, acc, e, p, h => by unfold valsR; rw [if_neg h]
theorem headR_cases (s : ByteArray) (p W : Nat) (wI : Int) (hw : (W : Int) = wI) : headR s p W = if (getR s p wI).2.1 = 0 ∧ (getR s p wI).1 = 2 ^ W - 1 then (0, ((getR s (getR s p wI).2.2 5).1 : Int), (getR s (getR s p wI).2.2 5).2.1, (getR s (getR s p wI).2.2 5).2.2)
    else (((getR s p wI).1 : Int), -1, (getR s p wI).2.1, (getR s p wI).2.2) := by
  subst hw
  rfl
theorem getR_lo (s : ByteArray) (p W : Nat) (wI : Int) (hw : (W : Int) = wI) : (getR s p wI).1 < 2 ^ W := by
  subst hw
  exact getR_small s p W
/-- A step over a partition. -/
theorem decL_step (s : ByteArray) (n order W d i : Nat) (al ps es : List Int) (q : Nat) : decL s n order W (d + 1) i al ps es q =
    (if (valsR s (headR s q W).1 (headR s q W).2.1 (if i = 0 then n - order else n) [] (headR s q W).2.2.1 (headR s q W).2.2.2).2.1 = 0 then
      decL s n order W d (i + 1) (al ++ (valsR s (headR s q W).1 (headR s q W).2.1 (if i = 0 then n - order else n) [] (headR s q W).2.2.1 (headR s q W).2.2.2).1) (ps ++ [(headR s q W).1]) (es ++ [(headR s q W).2.1]) (valsR s (headR s q W).1 (headR s q W).2.1 (if i = 0 then n - order else n) [] (headR s q W).2.2.1 (headR s q W).2.2.2).2.2
    else none) := rfl
/-- How the reference's Decode ends. -/
def XDecPost (s : ByteArray) (m o : Int) (X : Option (List Int × List Int × List Int × Nat)) (C B g : Nat) (w : World) (e : Ending) (w' : World) : Prop :=
  (X = none ∧ e = .returned (.tuple #[.slice none 0 0, .agg zRice, .int .i64 2]) ∧ (∃ q, XAt w' g s q ∧ q ≤ 8 * s.size) ∧ Turned B g w w') ∨
  ∃ al ps es q vl vP vE, X = some (al, ps, es, q) ∧ e = .returned (.tuple #[vl, .agg #[.int .i64 m, .int .i64 o, vP, vE], .int .i64 0]) ∧ IntsAt w' C vl al ∧ IntsAt w' C vP ps ∧ IntsAt w' C vE es ∧ XAt w' g s q ∧ q ≤ 8 * s.size ∧ Turned B g w w'
end Go.Proofs.Ytfhekkoibmlmpaa.Hand

/- Contracts of layer 8, proved by hand: the reference's Decode, where it is refused. -/
namespace Go.Proofs.Ytfhekkoibmlmpaa.Hand
open Go.RowKit Go.Proofs.Ytfhekkoibmlmpaa.Q Go.Proofs.YtfhekkoibmlmpaaW.PrintWords Go.Proofs.YtfhekkoibmlmpaaW.PrintLast Go.Proofs.YtfhekkoibmlmpaaW.PrintMore
set_option linter.unusedVariables false
set_option linter.unusedSimpArgs false

set_option maxHeartbeats 8000000 in
set_option maxRecDepth 100000 in
theorem RDecode_arg (block order : Int) (p : Value) (w : World) (hp : p = .pointer none ∨ ∃ g, p = .pointer (some ⟨g, 0, none⟩) ∧ badArgs block order) :
    Calls Try.prog 22 #[p, .int .i64 block, .int .i64 order] w fun e w' => e = .returned (.tuple #[.slice none 0 0, .agg zRice, .int .i64 1]) ∧ Below w.heap.size w w' := by
  have hup := Try.underlying47
  have HZ := Aside0.mk (blk_new w (.cells zRice 24 (0, 0)))
  have HB := Aside0.mk (below_alloc (Below.refl w.heap.size w) (.cells zRice 24 (0, 0)))
  have h6 : p = .pointer none ∨ (∃ g, p = .pointer (some ⟨g, 0, none⟩) ∧ block < 1) ∨ (∃ g, p = .pointer (some ⟨g, 0, none⟩) ∧ ¬ block < 1 ∧ 65535 < block) ∨ (∃ g, p = .pointer (some ⟨g, 0, none⟩) ∧ ¬ block < 1 ∧ ¬ 65535 < block ∧ order < 0) ∨
      (∃ g, p = .pointer (some ⟨g, 0, none⟩) ∧ ¬ block < 1 ∧ ¬ 65535 < block ∧ ¬ order < 0 ∧ 32 < order) ∨ (∃ g, p = .pointer (some ⟨g, 0, none⟩) ∧ ¬ block < 1 ∧ ¬ 65535 < block ∧ ¬ order < 0 ∧ ¬ 32 < order ∧ block < order) := by
    rcases hp with h | ⟨g, h, hb⟩
    · exact .inl h
    · unfold badArgs at hb
      by_cases c1 : block < 1
      · exact .inr (.inl ⟨g, h, c1⟩)
      by_cases c2 : 65535 < block
      · exact .inr (.inr (.inl ⟨g, h, c1, c2⟩))
      by_cases c3 : order < 0
      · exact .inr (.inr (.inr (.inl ⟨g, h, c1, c2, c3⟩)))
      by_cases c4 : 32 < order
      · exact .inr (.inr (.inr (.inr (.inl ⟨g, h, c1, c2, c3, c4⟩))))
      · exact .inr (.inr (.inr (.inr (.inr ⟨g, h, c1, c2, c3, c4, by omega⟩))))
  clear hp
  rcases h6 with rfl | ⟨g, rfl, h1⟩ | ⟨g, rfl, h1, h2⟩ | ⟨g, rfl, h1, h2, h3⟩ | ⟨g, rfl, h1, h2, h3, h4⟩ | ⟨g, rfl, h1, h2, h3, h4, h5⟩
  all_goals
    go_enter Try.func22, Try.ntmps22
    go_wp2_with ((with_reducible refine wpList_store_row ?_ 24 (.tmp 7) (.tmp 50) ?_ w.heap.size zRice ?_ ?_ 24 zRice HZ.out (rc_info _ _ _ _) ?_ (rc_one _ _ _ _ _ _ _ _) ?_); rfl; rfl; rfl; rfl; rfl)
    refine bodyPost_ret (results_tct rfl _ _ w.heap.size 24 zRice (0, 0) _ rfl (setRow_heap _ _ _ _ _ _ HZ.out) Try.underlying24 rfl (rc_info _ _ _ _)) rfl ?_
    exact ⟨rfl, below_setRow HB.out (Nat.le_refl _) _⟩
set_option maxHeartbeats 8000000 in
set_option maxRecDepth 100000 in
theorem RDecode_head (s : ByteArray) (hs : s.size ≤ 281474976710656) (p : Nat) (hp : p ≤ 8 * s.size) (block order : Int) (hbad : ¬ badArgs block order) (B g : Nat) (hB : B ≤ g) (w : World) (hR : XAt w g s p) (h : ¬ headD s p block order) :
    Calls Try.prog 22 #[.pointer (some ⟨g, 0, none⟩), .int .i64 block, .int .i64 order] w fun e w' => e = .returned (.tuple #[.slice none 0 0, .agg zRice, .int .i64 2]) ∧ (∃ q, XAt w' g s q ∧ q ≤ 8 * s.size) ∧ Turned B g w w' := by
  have hup := Try.underlying47
  obtain ⟨x1, x2, x3, x4, x5⟩ : ¬ block < 1 ∧ ¬ 65535 < block ∧ ¬ order < 0 ∧ ¬ 32 < order ∧ ¬ block < order := by unfold badArgs at hbad; omega
  have hgl := hR.lt
  have hbel : Below w.heap.size w (w.alloc (.cells zRice 24)) := below_alloc (Below.refl _ _) _
  have HG1 := Aside0.mk (XGet_t s hs p hp B g hB (w.alloc (.cells zRice 24)) (hR.below hbel) 2)
  have hat1 := getR_at s p 2 hp
  have hl1 : (getR s p 2).1 < 4 := getR_small s p 2
  have HG2 : Aside0 (∀ W, XAt W g s (getR s p 2).2.2 → Calls Try.prog 43 #[.pointer (some ⟨g, 0, none⟩), .int .i64 4] W fun e w' => e = .returned (.tuple #[.int .u64 (getR s (getR s p 2).2.2 4).1, .int .i64 (getR s (getR s p 2).2.2 4).2.1]) ∧ XAt w' g s (getR s (getR s p 2).2.2 4).2.2 ∧ Turned B g W w') := ⟨fun W h => XGet_t s hs _ hat1 B g hB W h 4⟩
  have hat2 := getR_at s (getR s p 2).2.2 4 hat1
  have hl2 : (getR s (getR s p 2).2.2 4).1 < 16 := getR_small s _ 4
  have HT0 := Aside0.mk ((Turned.refl B g w).new hbel (by omega))
  have HZ0 := Aside0.mk (blk_new w (.cells zRice 24 (0, 0)))
  have hb7 : w.heap.size ≠ g := by omega
  unfold headD at h
  clear hbad hR hbel hs
  generalize getR s (getR s p 2).2.2 4 = gr2 at h HG2 hat2 hl2 ⊢
  generalize getR s p 2 = gr1 at h HG1 HG2 hat1 hl1 ⊢
  obtain ⟨a1, e1, q1⟩ := gr1
  obtain ⟨a2, e2, q2⟩ := gr2
  simp only at h HG1 HG2 hat1 hat2 hl1 hl2 ⊢
  have h4 : (e1 != 0) = true ∨ ((e1 != 0) = false ∧ ((1 < a1) ∨ (¬ 1 < (a1 : Int) ∧ ((e2 != 0) = true ∨ ((e2 != 0) = false ∧ ¬ shapeP a1 a2 block order))))) := by
    by_cases c1 : e1 = 0
    · refine .inr ⟨bne_eq_false_iff_eq.mpr c1, ?_⟩
      by_cases c2 : 1 < a1
      · exact .inl c2
      · refine .inr ⟨by omega, ?_⟩
        by_cases c3 : e2 = 0
        · exact .inr ⟨bne_eq_false_iff_eq.mpr c3, fun hh => h ⟨c1, c3, hh⟩⟩
        · exact .inl (bne_iff_ne.mpr c3)
    · exact .inl (bne_iff_ne.mpr c1)
  clear h
  have hwalk : True := trivial
  rcases h4 with hne | ⟨hne, h4⟩
  · go_enter Try.func22, Try.ntmps22
    go_wp2_with fail
    with_reducible refine HG1.out.mono ?_
    rintro e w2 ⟨rfl, hr2, ht2⟩
    have HR2 := Aside0.mk hr2
    have HT2 := Aside0.mk (HT0.out.trans ht2)
    have HZ2 := Aside0.mk (blk_kept HZ0.out ht2.kept (fun h => hb7 h))
    clear hr2 ht2 HG1 HT0 HZ0
    go_wp2_with ((with_reducible refine wpList_store_row ?_ 24 (.tmp 7) (.tmp 62) ?_ w.heap.size zRice ?_ ?_ 24 zRice HZ2.out (rc_info _ _ _ _) ?_ (rc_one _ _ _ _ _ _ _ _) ?_); rfl; rfl; rfl; rfl; rfl)
    refine bodyPost_ret (results_tct rfl _ _ w.heap.size 24 zRice (0, 0) _ rfl (setRow_heap _ _ _ _ _ _ HZ2.out) Try.underlying24 rfl (rc_info _ _ _ _)) rfl ?_
    exact ⟨rfl, ⟨q1, HR2.out.setRow hb7, hat1⟩, HT2.out.setRow (Nat.le_refl _) (by omega)⟩
  rcases h4 with h1 | ⟨h1, h4⟩
  · have h1' : 1 < (a1 : Int) := by omega
    clear h1
    go_enter Try.func22, Try.ntmps22
    go_wp2_with fail
    with_reducible refine HG1.out.mono ?_
    rintro e w2 ⟨rfl, hr2, ht2⟩
    have HR2 := Aside0.mk hr2
    have HT2 := Aside0.mk (HT0.out.trans ht2)
    have HZ2 := Aside0.mk (blk_kept HZ0.out ht2.kept (fun h => hb7 h))
    clear hr2 ht2 HG1 HT0 HZ0
    go_wp2_with ((with_reducible refine wpList_store_row ?_ 24 (.tmp 7) (.tmp 62) ?_ w.heap.size zRice ?_ ?_ 24 zRice HZ2.out (rc_info _ _ _ _) ?_ (rc_one _ _ _ _ _ _ _ _) ?_); rfl; rfl; rfl; rfl; rfl)
    refine bodyPost_ret (results_tct rfl _ _ w.heap.size 24 zRice (0, 0) _ rfl (setRow_heap _ _ _ _ _ _ HZ2.out) Try.underlying24 rfl (rc_info _ _ _ _)) rfl ?_
    exact ⟨rfl, ⟨q1, HR2.out.setRow hb7, hat1⟩, HT2.out.setRow (Nat.le_refl _) (by omega)⟩
  rcases h4 with hne2 | ⟨hne2, hsh⟩
  · skip
    go_enter Try.func22, Try.ntmps22
    go_wp2_with fail
    with_reducible refine HG1.out.mono ?_
    rintro e w2 ⟨rfl, hr2, ht2⟩
    have HR2 := Aside0.mk hr2
    have HT2 := Aside0.mk (HT0.out.trans ht2)
    have HZ2 := Aside0.mk (blk_kept HZ0.out ht2.kept (fun h => hb7 h))
    clear hr2 ht2 HG1 HT0 HZ0
    go_wp2_with fail
    with_reducible refine (HG2.out w2 HR2.out).mono ?_
    rintro e w3 ⟨rfl, hr3, ht3⟩
    have HR3 := Aside0.mk hr3
    have HT3 := Aside0.mk (HT2.out.trans ht3)
    have HZ3 := Aside0.mk (blk_kept HZ2.out ht3.kept (fun h => hb7 h))
    have hg3 := hr3.lt
    clear hr3 ht3 HG2 HT2 HZ2 HR2
    have HB4 := Aside0.mk (below_setRow (below_alloc (Below.refl w3.heap.size w3) (.cells zRice 24 (0, 0))) (Nat.le_refl _) #[.int .i64 a1, .int .i64 a2, .slice none 0 0, .slice none 0 0])
    have HX4 := Aside0.mk (setRow_heap _ _ _ #[.int .i64 (a1 : Int), .int .i64 (a2 : Int), .slice none 0 0, .slice none 0 0] _ _ (blk_new w3 (.cells zRice 24 (0, 0))))
    have HZ4 := Aside0.mk (blk_below HZ3.out HB4.out)
    have HR4 := Aside0.mk (HR3.out.below HB4.out)
    have HT4 := Aside0.mk (HT3.out.new HB4.out (by omega))
    clear HZ3 HR3 HT3 HB4
    go_wp2_with (first | ((with_reducible refine wpList_store_row ?_ 24 (.tmp 12) (.tmp 72) ?_ w3.heap.size #[.int .i64 a1, .int .i64 a2, .slice none 0 0, .slice none 0 0] ?_ ?_ 24 zRice (blk_new w3 (.cells zRice 24 (0, 0))) (rc_info _ _ _ _) ?_ (rc_one _ _ _ _ _ _ _ _) ?_); rfl; rfl; rfl; rfl; rfl) | ((with_reducible refine wpList_store_row ?_ 24 (.tmp 7) (.tmp 82) ?_ w.heap.size zRice ?_ ?_ 24 zRice HZ4.out (rc_info _ _ _ _) ?_ (rc_one _ _ _ _ _ _ _ _) ?_); rfl; rfl; rfl; rfl; rfl))
    refine bodyPost_ret (results_tct rfl _ _ w.heap.size 24 zRice (0, 0) _ rfl (setRow_heap _ _ _ _ _ _ HZ4.out) Try.underlying24 rfl (rc_info _ _ _ _)) rfl ?_
    exact ⟨rfl, ⟨q2, HR4.out.setRow hb7, hat2⟩, HT4.out.setRow (Nat.le_refl _) (by omega)⟩
  · have HSH := Aside0.mk hsh
    clear hsh
    go_enter Try.func22, Try.ntmps22
    go_wp2_with fail
    with_reducible refine HG1.out.mono ?_
    rintro e w2 ⟨rfl, hr2, ht2⟩
    have HR2 := Aside0.mk hr2
    have HT2 := Aside0.mk (HT0.out.trans ht2)
    have HZ2 := Aside0.mk (blk_kept HZ0.out ht2.kept (fun h => hb7 h))
    clear hr2 ht2 HG1 HT0 HZ0
    go_wp2_with fail
    with_reducible refine (HG2.out w2 HR2.out).mono ?_
    rintro e w3 ⟨rfl, hr3, ht3⟩
    have HR3 := Aside0.mk hr3
    have HT3 := Aside0.mk (HT2.out.trans ht3)
    have HZ3 := Aside0.mk (blk_kept HZ2.out ht3.kept (fun h => hb7 h))
    have hg3 := hr3.lt
    clear hr3 ht3 HG2 HT2 HZ2 HR2
    have HB4 := Aside0.mk (below_setRow (below_alloc (Below.refl w3.heap.size w3) (.cells zRice 24 (0, 0))) (Nat.le_refl _) #[.int .i64 a1, .int .i64 a2, .slice none 0 0, .slice none 0 0])
    have HX4 := Aside0.mk (setRow_heap _ _ _ #[.int .i64 (a1 : Int), .int .i64 (a2 : Int), .slice none 0 0, .slice none 0 0] _ _ (blk_new w3 (.cells zRice 24 (0, 0))))
    have HZ4 := Aside0.mk (blk_below HZ3.out HB4.out)
    have HR4 := Aside0.mk (HR3.out.below HB4.out)
    have HT4 := Aside0.mk (HT3.out.new HB4.out (by omega))
    clear HZ3 HR3 HT3 HB4
    have HCS : Aside0 (∀ W, Calls Try.prog 40 #[.agg #[.int .i64 a1, .int .i64 a2, .slice none 0 0, .slice none 0 0], .int .i64 block, .int .i64 order] W fun e w' => e = .returned (.bool false) ∧ Below W.heap.size W w') := ⟨fun W =>
      lacquerref08_shape.calls a1 a2 none 0 [] none 0 [] block order false W ⟨rfl, by decide, fun h => absurd h (Nat.lt_irrefl _)⟩ (Nat.le_refl _) ⟨rfl, by decide, fun h => absurd h (Nat.lt_irrefl _)⟩ (Nat.le_refl _) (by rw [xshape_eq a1 a2 [] [] block order, decide_eq_false HSH.out])⟩
    have HXB := Aside0.mk HX4.out
    go_upto_region 8 with ((with_reducible refine wpList_store_row ?_ 24 (.tmp 12) (.tmp 72) ?_ w3.heap.size #[.int .i64 a1, .int .i64 a2, .slice none 0 0, .slice none 0 0] ?_ ?_ 24 zRice (blk_new w3 (.cells zRice 24 (0, 0))) (rc_info _ _ _ _) ?_ (rc_one _ _ _ _ _ _ _ _) ?_); rfl; rfl; rfl; rfl; rfl)
    generalize (w3.alloc (.cells zRice 24 (0, 0))).setRow w3.heap.size #[.int .i64 (a1 : Int), .int .i64 (a2 : Int), .slice none 0 0, .slice none 0 0] = w4 at *
    have c0 := blk_cell HX4.out 0
    have c1 := blk_cell HX4.out 1
    have c2 := blk_cell HX4.out 2
    have c3 := blk_cell HX4.out 3
    go_wp2_with fail
    with_reducible refine (HCS.out _).mono ?_
    rintro e w5 ⟨rfl, hb5⟩
    have HZ5 := Aside0.mk (blk_below HZ4.out hb5)
    have HR5 := Aside0.mk (HR4.out.below hb5)
    have HT5 := Aside0.mk (HT4.out.new hb5 (by have := HR4.out.lt; omega))
    clear hb5 c0 c1 c2 c3 HX4 HXB HZ4 HR4 HT4 HCS
    go_wp2_with ((with_reducible refine wpList_store_row ?_ 24 (.tmp 7) (.tmp 82) ?_ w.heap.size zRice ?_ ?_ 24 zRice HZ5.out (rc_info _ _ _ _) ?_ (rc_one _ _ _ _ _ _ _ _) ?_); rfl; rfl; rfl; rfl; rfl)
    refine bodyPost_ret (results_tct rfl _ _ w.heap.size 24 zRice (0, 0) _ rfl (setRow_heap _ _ _ _ _ _ HZ5.out) Try.underlying24 rfl (rc_info _ _ _ _)) rfl ?_
    exact ⟨rfl, ⟨q2, HR5.out.setRow hb7, hat2⟩, HT5.out.setRow (Nat.le_refl _) (by omega)⟩
end Go.Proofs.Ytfhekkoibmlmpaa.Hand

/- Contracts of layer 8, proved by hand: the reference's Decode, where its head may be (method 0). -/
namespace Go.Proofs.Ytfhekkoibmlmpaa.Hand
open Go.RowKit Go.Proofs.Ytfhekkoibmlmpaa.Q Go.Proofs.YtfhekkoibmlmpaaW.PrintWords Go.Proofs.YtfhekkoibmlmpaaW.PrintLast Go.Proofs.YtfhekkoibmlmpaaW.PrintMore
set_option linter.unusedVariables false
set_option linter.unusedSimpArgs false

set_option maxHeartbeats 16000000 in
set_option maxRecDepth 100000 in
theorem RDecode_go0 (s : ByteArray) (hs : s.size ≤ 281474976710656) (p : Nat) (hp : p ≤ 8 * s.size) (Bk Oq n : Nat) (hbad : ¬ badArgs Bk Oq) (B g : Nat) (hB : B ≤ g) (w : World) (hBw : B ≤ w.heap.size) (hR : XAt w g s p)
    (h1 : (getR s p 2).2.1 = 0) (h2 : (getR s (getR s p 2).2.2 4).2.1 = 0) (hm : (getR s p 2).1 = 0) (hsh : shapeP 0 (getR s (getR s p 2).2.2 4).1 Bk Oq) (hn : Bk = 2 ^ (getR s (getR s p 2).2.2 4).1 * n) (hon : Oq ≤ n) :
    Calls Try.prog 22 #[.pointer (some ⟨g, 0, none⟩), .int .i64 Bk, .int .i64 Oq] w
      (XDecPost s 0 (getR s (getR s p 2).2.2 4).1 (decL s n Oq 4 (2 ^ (getR s (getR s p 2).2.2 4).1) 0 [] [] [] (getR s (getR s p 2).2.2 4).2.2) w.heap.size B g w) := by
  have hup := Try.underlying47
  obtain ⟨x1, x2, x3, x4, x5⟩ : ¬ (Bk : Int) < 1 ∧ ¬ 65535 < (Bk : Int) ∧ ¬ (Oq : Int) < 0 ∧ ¬ 32 < (Oq : Int) ∧ ¬ (Bk : Int) < (Oq : Int) := by unfold badArgs at hbad; omega
  have hgl := hR.lt
  have hbel : Below w.heap.size w (w.alloc (.cells zRice 24)) := below_alloc (Below.refl _ _) _
  have HG1 := Aside0.mk (XGet_t s hs p hp B g hB (w.alloc (.cells zRice 24)) (hR.below hbel) 2)
  have hat1 := getR_at s p 2 hp
  have hl1 : (getR s p 2).1 < 4 := getR_small s p 2
  have HGET : Aside0 (∀ W q (k : Int), q ≤ 8 * s.size → XAt W g s q → Calls Try.prog 43 #[.pointer (some ⟨g, 0, none⟩), .int .i64 k] W fun e w' => e = .returned (.tuple #[.int .u64 (getR s q k).1, .int .i64 (getR s q k).2.1]) ∧ XAt w' g s (getR s q k).2.2 ∧ Turned B g W w') := ⟨fun W q k hq h => XGet_t s hs q hq B g hB W h k⟩
  have HRICE : Aside0 (∀ W q (k : Int), q ≤ 8 * s.size → XAt W g s q → Calls Try.prog 44 #[.pointer (some ⟨g, 0, none⟩), .int .i64 k] W fun e w' => e = .returned (.tuple #[.int .i64 (riceR s q k).1, .int .i64 (riceR s q k).2.1]) ∧ XAt w' g s (riceR s q k).2.2 ∧ Turned B g W w') := ⟨fun W q k hq h => XRice_t s hs q hq B g hB W h k⟩
  have HSIGN : Aside0 (∀ W q (k : Int), k ≤ 64 → q ≤ 8 * s.size → XAt W g s q → Calls Try.prog 45 #[.pointer (some ⟨g, 0, none⟩), .int .i64 k] W fun e w' => e = .returned (.tuple #[.int .i64 (signedR s q k).1, .int .i64 (signedR s q k).2.1]) ∧ XAt w' g s (signedR s q k).2.2 ∧ Turned B g W w') := ⟨fun W q k hk hq h => XSigned_t s hs q hq B g hB W h k hk⟩
  have HG2 : Aside0 (∀ W, XAt W g s (getR s p 2).2.2 → Calls Try.prog 43 #[.pointer (some ⟨g, 0, none⟩), .int .i64 4] W fun e w' => e = .returned (.tuple #[.int .u64 (getR s (getR s p 2).2.2 4).1, .int .i64 (getR s (getR s p 2).2.2 4).2.1]) ∧ XAt w' g s (getR s (getR s p 2).2.2 4).2.2 ∧ Turned B g W w') := ⟨fun W h => XGet_t s hs _ hat1 B g hB W h 4⟩
  have hat2 := getR_at s (getR s p 2).2.2 4 hat1
  have hl2 : (getR s (getR s p 2).2.2 4).1 < 16 := getR_small s _ 4
  have HT0 := Aside0.mk ((Turned.refl B g w).new hbel (by omega))
  have HZ0 := Aside0.mk (blk_new w (.cells zRice 24 (0, 0)))
  have hb7 : w.heap.size ≠ g := by omega
  have HS := Aside0.mk hs
  clear hbad hR hbel hs
  generalize getR s (getR s p 2).2.2 4 = gr2 at h2 hsh hn HG2 hat2 hl2 ⊢
  generalize getR s p 2 = gr1 at h1 hm HG1 HG2 hat1 hl1 ⊢
  obtain ⟨a1, e1, q1⟩ := gr1
  obtain ⟨a2, e2, q2⟩ := gr2
  simp only at h1 h2 hm hsh hn HG1 HG2 hat1 hat2 hl1 hl2 ⊢
  subst h1
  subst h2
  subst hm
  obtain ⟨X, hX⟩ : ∃ X, decL s n Oq 4 (2 ^ a2) 0 [] [] [] q2 = X := ⟨_, rfl⟩
  rw [hX]
  have HX := Aside0.mk hX
  have hN2 : 2 ^ a2 ≤ 2 ^ 15 := Nat.pow_le_pow_right (by decide) (by omega)
  have hNp : 0 < 2 ^ a2 := Nat.two_pow_pos a2
  have HCS : Aside0 (∀ W, Calls Try.prog 40 #[.agg #[.int .i64 0, .int .i64 a2, .slice none 0 0, .slice none 0 0], .int .i64 Bk, .int .i64 Oq] W fun e w' => e = .returned (.bool true) ∧ Below W.heap.size W w') := ⟨fun W =>
    lacquerref08_shape.calls 0 a2 none 0 [] none 0 [] Bk Oq true W ⟨rfl, by decide, fun h => absurd h (Nat.lt_irrefl _)⟩ (Nat.le_refl _) ⟨rfl, by decide, fun h => absurd h (Nat.lt_irrefl _)⟩ (Nat.le_refl _) (by rw [xshape_eq 0 a2 [] [] Bk Oq, decide_eq_true hsh])⟩
  have HPT : Aside0 (∀ (i : Nat) (W : World) (AP AE : Option Addr) (cP cE : Nat) (ps es : List Int), Kd.C (Kd.int .i64) W AP ps.length ps → ps.length ≤ cP → Kd.C (Kd.int .i64) W AE es.length es → es.length ≤ cE → i < 2 ^ a2 → Calls Try.prog 35 #[.agg #[.int .i64 0, .int .i64 a2, .slice AP ps.length cP, .slice AE es.length cE], .int .i64 Bk, .int .i64 Oq, .int .i64 i] W fun e w' => e = .returned (.tuple #[.int .i64 ((i * n - Oq : Nat) : Int), .int .i64 (((i + 1) * n - Oq : Nat) : Int)]) ∧ Below W.heap.size W w') :=
    ⟨fun i W AP AE cP cE ps es hP hcP hE hcE hi => lacquerref08_part.calls 0 a2 AP cP ps AE cE es Bk Oq i _ _ W hP hcP hE hcE (xpart_eq 0 a2 Bk Oq n i ps es (by omega) (by omega) (by omega) hn hon hi)⟩
  have HNn : Aside0 (2 ^ a2 * n ≤ 65535) := ⟨by rw [← hn]; omega⟩
  have hn6 : n ≤ 65535 := by
    have := HNn.out
    have h3 : 1 * n ≤ 2 ^ a2 * n := Nat.mul_le_mul_right n hNp
    omega
  obtain ⟨N, hN⟩ : ∃ N, 2 ^ a2 = N := ⟨_, rfl⟩
  have HJ := Aside0.mk (shl1 a2 N (by omega) hN)
  rw [hN] at HX hN2 hNp HNn HPT
  clear hX hn hsh hN
  obtain ⟨oI, ho⟩ : ∃ oI : Int, (a2 : Int) = oI := ⟨_, rfl⟩
  have o0 : 0 ≤ oI := by omega
  have o1 : oI ≤ 64 := by omega
  rw [ho] at HG2 HCS HPT HJ ⊢
  have HO := Aside0.mk ho
  clear ho hl2
  go_enter Try.func22, Try.ntmps22
  go_wp2_with fail
  with_reducible refine HG1.out.mono ?_
  rintro e w2 ⟨rfl, hr2, ht2⟩
  have HR2 := Aside0.mk hr2
  have HT2 := Aside0.mk (HT0.out.trans ht2)
  have HZ2 := Aside0.mk (blk_kept HZ0.out ht2.kept (fun h => hb7 h))
  clear hr2 ht2 HG1 HT0 HZ0
  go_wp2_with fail
  with_reducible refine (HG2.out w2 HR2.out).mono ?_
  rintro e w3 ⟨rfl, hr3, ht3⟩
  have HR3 := Aside0.mk hr3
  have HT3 := Aside0.mk (HT2.out.trans ht3)
  have HZ3 := Aside0.mk (blk_kept HZ2.out ht3.kept (fun h => hb7 h))
  have hg3 := hr3.lt
  have hsz3 := HT3.out.kept.1
  clear hr3 ht3 HG2 HT2 HZ2 HR2
  have HB4 := Aside0.mk (below_setRow (below_alloc (Below.refl w3.heap.size w3) (.cells zRice 24 (0, 0))) (Nat.le_refl _) #[.int .i64 0, .int .i64 oI, .slice none 0 0, .slice none 0 0])
  have HX4 := Aside0.mk (setRow_heap _ _ _ #[.int .i64 0, .int .i64 oI, .slice none 0 0, .slice none 0 0] _ _ (blk_new w3 (.cells zRice 24 (0, 0))))
  have HZ4 := Aside0.mk (blk_below HZ3.out HB4.out)
  have HR4 := Aside0.mk (HR3.out.below HB4.out)
  have HT4 := Aside0.mk (HT3.out.new HB4.out (by omega))
  have h713 : w.heap.size ≠ w3.heap.size := by have := blk_lt HZ3.out; omega
  clear HZ3 HR3 HT3
  go_upto_region 8 with ((with_reducible refine wpList_store_row ?_ 24 (.tmp 12) (.tmp 72) ?_ w3.heap.size #[.int .i64 0, .int .i64 oI, .slice none 0 0, .slice none 0 0] ?_ ?_ 24 zRice (blk_new w3 (.cells zRice 24 (0, 0))) (rc_info _ _ _ _) ?_ (rc_one _ _ _ _ _ _ _ _) ?_); rfl; rfl; rfl; rfl; rfl)
  have hsz4 := HB4.out.size
  generalize (w3.alloc (.cells zRice 24 (0, 0))).setRow w3.heap.size #[.int .i64 0, .int .i64 oI, .slice none 0 0, .slice none 0 0] = w4 at *
  have hB13 : w.heap.size ≤ w3.heap.size := hsz3
  have hg13 : g ≠ w3.heap.size := by omega
  clear hsz3 hg3 HB4
  generalize w3.heap.size = b13 at *
  have c0 := blk_cell HX4.out 0
  have c1 := blk_cell HX4.out 1
  have c2 := blk_cell HX4.out 2
  have c3 := blk_cell HX4.out 3
  go_wp2_with fail
  with_reducible refine (HCS.out _).mono ?_
  rintro e w5 ⟨rfl, hb5⟩
  have HZ5 := Aside0.mk (blk_below HZ4.out hb5)
  have HR5 := Aside0.mk (HR4.out.below hb5)
  have HT5 := Aside0.mk (HT4.out.new hb5 (by have := HR4.out.lt; omega))
  have HX5 := Aside0.mk (blk_below HX4.out hb5)
  clear hb5 c0 c1 c2 c3 HX4 HZ4 HR4 HT4 HCS
  have d0 := blk_cell HX5.out 0
  obtain ⟨c, hc⟩ : ∃ c, Bk - Oq = c := ⟨_, rfl⟩
  have hmk := make_ints w5 w.heap.size c (by omega) HT5.out.kept.1
  obtain ⟨w6, hrun, hI6, hB6⟩ := hmk
  have hcI : (Bk : Int) - (Oq : Int) = (c : Int) := by omega
  rw [← hcI] at hrun
  have HI6 := Aside0.mk hI6
  have HB6 := Aside0.mk hB6
  clear hI6 hB6 hcI
  go_upto_region 12 with fail
  have hst : XDecSt w B g w.heap.size b13 s 0 oI w6 q2 (.slice (some ⟨w5.heap.size, 0, none⟩) 0 c) (.slice none 0 0) (.slice none 0 0) [] [] [] :=
    ⟨HR5.out.below HB6.out, HT5.out.new HB6.out (by have := HR5.out.lt; omega), blk_below HZ5.out HB6.out, blk_below HX5.out HB6.out, HI6.out, IntsAt.nil _ _, IntsAt.nil _ _, Dis.nil_right _, Dis.nil_right _, Dis.nil_left _⟩
  have HST := Aside0.mk hst
  clear hrun HB6 HI6 HX5 HZ5 HR5 HT5 d0 hst
  generalize Value.slice (some ⟨w5.heap.size, 0, none⟩) 0 c = u0 at *
  go_wp2
  go_loopw [14, 15] (fun uv iv wr => ∃ (i : Nat) (vP vE : Value) (al ps es : List Int) (q : Nat), i ≤ N ∧ iv = .int .i64 i ∧ q ≤ 8 * s.size ∧ Aside0 (al.length ≤ i * n ∧ ps.length = i ∧ es.length = i) ∧ Aside0 (XDecSt w B g w.heap.size b13 s 0 oI wr q uv vP vE al ps es) ∧ Aside0 (decL s n Oq 4 (N - i) i al ps es q = X)) (fun _ iv _ => N - (intOf iv).toNat)
  case atStart => exact ⟨0, .slice none 0 0, .slice none 0 0, [], [], [], q2, Nat.zero_le _, rfl, hat2, ⟨Nat.zero_le _, rfl, rfl⟩, HST, ⟨by rw [Nat.sub_zero]; exact HX.out⟩⟩
  case round =>
    clear HST HX
    obtain ⟨i, vP, vE, al, ps, es, q, hi, rfl, hq, HLN, HST, HX⟩ := hrel
    by_cases hlt : i < N
    · have i0 : (0 : Int) ≤ (i : Int) := by omega
      have i1 : (i : Int) < (N : Int) := by omega
      obtain ⟨d, hd⟩ : ∃ d, N - i = d + 1 := ⟨N - i - 1, by omega⟩
      have hd2 : N - (i + 1) = d := by omega
      have HD := Aside0.mk hd2
      have hmul : (i + 1) * n = i * n + n := Nat.succ_mul i n
      have hle : (i + 1) * n ≤ N * n := Nat.mul_le_mul_right n (by omega)
      have HLE := Aside0.mk (Nat.le_trans hle HNn.out)
      obtain ⟨k, hk⟩ : ∃ k, (if i = 0 then n - Oq else n) = k := ⟨_, rfl⟩
      have hkn : k ≤ n := by rw [← hk]; split <;> omega
      have hfk : i * n - Oq + k = (i + 1) * n - Oq := by
        by_cases h0 : i = 0
        · rw [if_pos h0] at hk
          subst h0
          rw [Nat.zero_mul, Nat.zero_sub] at *
          omega
        · rw [if_neg h0] at hk
          have h3 : 1 * n ≤ i * n := Nat.mul_le_mul_right n (by omega)
          omega
      have HX2 : Aside0 ((if (valsR s (headR s q 4).1 (headR s q 4).2.1 k [] (headR s q 4).2.2.1 (headR s q 4).2.2.2).2.1 = 0 then
          decL s n Oq 4 d (i + 1) (al ++ (valsR s (headR s q 4).1 (headR s q 4).2.1 k [] (headR s q 4).2.2.1 (headR s q 4).2.2.2).1) (ps ++ [(headR s q 4).1]) (es ++ [(headR s q 4).2.1]) (valsR s (headR s q 4).1 (headR s q 4).2.1 k [] (headR s q 4).2.2.1 (headR s q 4).2.2.2).2.2
        else none) = X) := ⟨by
        have := HX.out
        rw [hd, decL_step, hk] at this
        exact this⟩
      have hal3 : al.length + k ≤ (i + 1) * n ∧ al.length + k ≤ 65535 := by have := HLE.out; have := HLN.out.1; omega
      have HAL := Aside0.mk hal3
      have hH := headR_cases s q 4 4 rfl
      have hlo := getR_lo s q 4 4 rfl
      have hqa := getR_at s q 4 hq
      have HLN2 : Aside0 (ps.length = i ∧ es.length = i) := ⟨HLN.out.2⟩
      obtain ⟨AP, cP, rfl, hcP, hCP⟩ := HST.out.P.C
      obtain ⟨AE, cE, rfl, hcE, hCE⟩ := HST.out.E.C
      have HPI := Aside0.mk (HPT.out i wr AP AE cP cE ps es hCP hcP hCE hcE hlt)
      obtain ⟨f, hf⟩ : ∃ f, i * n - Oq = f := ⟨_, rfl⟩
      obtain ⟨t, ht⟩ : ∃ t, (i + 1) * n - Oq = t := ⟨_, rfl⟩
      rw [hf, ht] at hfk HPI
      have ht6 : t ≤ 65535 := by have := HLE.out; omega
      have c0 := blk_cell HST.out.r13 0
      have c1 := blk_cell HST.out.r13 1
      have c2 := blk_cell HST.out.r13 2
      have c3 := blk_cell HST.out.r13 3
      have HFK := Aside0.mk hfk
      clear HX hd hd2 hmul hle hal3 hk hf ht hCP hCE hcP hcE HLN hkn hfk
      obtain ⟨j9, j0, j1, j2, j3, j4, ju⟩ := HJ.out
      go_wp2_with fail
      clear j9 j0 j1 j2 j3 j4 ju
      with_reducible refine HPI.out.mono ?_
      rintro e w7 ⟨rfl, hb7'⟩
      have hst7 := HST.out.below hB hb7'
      have HST7 := Aside0.mk hst7
      clear hst7 hb7' HPI HST c0 c1 c2 c3
      have HGQ := Aside0.mk (HGET.out w7 q 4 hq HST7.out.rd)
      generalize getR s q 4 = gr at hH hlo hqa HGQ
      obtain ⟨a, e1, q1⟩ := gr
      simp only at hH hlo hqa HGQ
      go_wp2_with fail
      with_reducible refine HGQ.out.mono ?_
      rintro e w8 ⟨rfl, hr8, ht8⟩
      have hst8 := HST7.out.turn hr8 ht8 hb7 (fun h => hg13 h.symm)
      have HST8 := Aside0.mk hst8
      have HT8 := Aside0.mk hst8.tn
      clear hst8 hr8 ht8 HGQ HST7
      cases he1 : e1 != 0 with
      | true =>
        have hn1 : e1 ≠ 0 := by simpa using he1
        rw [if_neg (fun h => hn1 h.1)] at hH
        have HXN : Aside0 (X = none) := ⟨by have := HX2.out; rw [hH] at this; simp only at this; rw [if_neg (by rw [valsR_bad _ _ _ _ _ _ _ hn1]; exact hn1)] at this; exact this.symm⟩
        clear hn1 hH HX2
        go_wp2_with ((with_reducible refine wpList_store_row ?_ 24 (.tmp 7) (.tmp 114) ?_ w.heap.size zRice ?_ ?_ 24 zRice HST8.out.z7 (rc_info _ _ _ _) ?_ (rc_one _ _ _ _ _ _ _ _) ?_); rfl; rfl; rfl; rfl; rfl)
        refine bodyPost_ret (results_tct rfl _ _ w.heap.size 24 zRice (0, 0) _ rfl (setRow_heap _ _ _ _ _ _ HST8.out.z7) Try.underlying24 rfl (rc_info _ _ _ _)) rfl ?_
        exact .inl ⟨HXN.out, rfl, ⟨q1, HST8.out.rd.setRow hb7, hqa⟩, HST8.out.tn.setRow (Nat.le_refl _) hBw⟩
      | false =>
        have hz1 : e1 = 0 := by simpa using he1
        subst hz1
        by_cases ha : a = 15
        · have hab : ((a : Int) == 15) = true := beq_iff_eq.mpr (by omega)
          rw [if_pos ⟨rfl, ha⟩] at hH
          have hlo5 := getR_lo s q1 5 5 rfl
          have hq5 := getR_at s q1 5 hqa
          have HGQ := Aside0.mk (HGET.out w8 q1 5 hqa HST8.out.rd)
          generalize getR s q1 5 = gr at hH hlo5 hq5 HGQ
          obtain ⟨b, e3, q3⟩ := gr
          simp only at hH hlo5 hq5 HGQ
          clear ha
          go_wp2_with fail
          with_reducible refine HGQ.out.mono ?_
          rintro e w9 ⟨rfl, hr9, ht9⟩
          have hst9 := HST8.out.turn hr9 ht9 hb7 (fun h => hg13 h.symm)
          have HST9 := Aside0.mk hst9
          clear hst9 hr9 ht9 HGQ HST8 HT8
          cases he3 : e3 != 0 with
          | true =>
            have hn1 : e3 ≠ 0 := by simpa using he3
            have HXN : Aside0 (X = none) := ⟨by have := HX2.out; rw [hH] at this; simp only at this; rw [if_neg (by rw [valsR_bad _ _ _ _ _ _ _ hn1]; exact hn1)] at this; exact this.symm⟩
            clear hn1 hH HX2
            go_wp2_with ((with_reducible refine wpList_store_row ?_ 24 (.tmp 7) (.tmp 130) ?_ w.heap.size zRice ?_ ?_ 24 zRice HST9.out.z7 (rc_info _ _ _ _) ?_ (rc_one _ _ _ _ _ _ _ _) ?_); rfl; rfl; rfl; rfl; rfl)
            refine bodyPost_ret (results_tct rfl _ _ w.heap.size 24 zRice (0, 0) _ rfl (setRow_heap _ _ _ _ _ _ HST9.out.z7) Try.underlying24 rfl (rc_info _ _ _ _)) rfl ?_
            exact .inl ⟨HXN.out, rfl, ⟨q3, HST9.out.rd.setRow hb7, hq5⟩, HST9.out.tn.setRow (Nat.le_refl _) hBw⟩
          | false =>
            have hz3 : e3 = 0 := by simpa using he3
            subst hz3
            have HV0 : Aside0 (∃ V, valsR s 0 (b : Int) k [] 0 q3 = V ∧ (if V.2.1 = 0 then decL s n Oq 4 d (i + 1) (al ++ V.1) (ps ++ [0]) (es ++ [(b : Int)]) V.2.2 else none) = X) := ⟨⟨_, rfl, by have := HX2.out; rw [hH] at this; exact this⟩⟩
            obtain ⟨V, hV, hVX⟩ := HV0.out
            have HV := Aside0.mk hV
            have HVX := Aside0.mk hVX
            clear HV0 hV hVX hH HX2
            have hst8 := HST9.out.below hB (below_drew (Below.refl w9.heap.size w9))
            have HSTd := Aside0.mk hst8
            have hst := TwoRows.start hst8.r13 (by decide) hst8.P hst8.E hst8.d3 hB13
            have hpl : ps.length ≤ 65536 := by have := HLN2.out.1; omega
            have hel : es.length ≤ 65536 := by have := HLN2.out.2; omega
            clear hst8 HST9
            go_wp2
            refine start_ (n := 14) (S := fun w' => w'.cell? ⟨b13, 2, none⟩ = some ((Value.slice AP ps.length cP)) ∧ w'.cell? ⟨b13, 3, none⟩ = some ((Value.slice AE es.length cE))) (ds := [11, 13]) #[false, false, false, false, false, false, false, false, false, false, false, false, false, false] (by kernel_rfl) rfl rfl ⟨blk_cell hst.box 2, blk_cell hst.box 3⟩ (fun hHeld => ?_)
            refine pure_ (i := 0) (N := some 133) (v := ?_) (a' := ?_) #[true, false, false, false, false, false, false, false, false, false, false, false, false, false] rfl rfl (by kernel_rfl) (fun _ _ _ h => h) (Or.inl ⟨by rfl, ?_⟩) ?_ ?_
            rotate_left
            · intro w'
              go_simp
              with_reducible rfl
            rotate_left
            · simp only [Act.put, List.setIfInBounds_toArray, List.set_cons_zero, List.set_cons_succ, i64_w, i32_w]
              rfl
            refine pure_ (i := 2) (N := some 135) (v := ?_) (a' := ?_) #[true, false, true, false, false, false, false, false, false, false, false, false, false, false] rfl rfl (by kernel_rfl) (fun _ _ _ h => h) (Or.inl ⟨by rfl, ?_⟩) ?_ ?_
            rotate_left
            · intro w'
              go_simp
              with_reducible rfl
            rotate_left
            · simp only [Act.put, List.setIfInBounds_toArray, List.set_cons_zero, List.set_cons_succ, i64_w, i32_w]
              rfl
            refine pure_ (i := 5) (N := some 138) (v := ?_) (a' := ?_) #[true, false, true, false, false, true, false, false, false, false, false, false, false, false] rfl rfl (by kernel_rfl) (fun _ _ _ h => h) (Or.inl ⟨by rfl, ?_⟩) ?_ ?_
            rotate_left
            · intro w'
              go_simp
              with_reducible rfl
            rotate_left
            · simp only [Act.put, List.setIfInBounds_toArray, List.set_cons_zero, List.set_cons_succ, i64_w, i32_w]
              rfl
            refine pure_ (i := 7) (N := some 140) (v := ?_) (a' := ?_) #[true, false, true, false, false, true, false, true, false, false, false, false, false, false] rfl rfl (by kernel_rfl) (fun _ _ _ h => h) (Or.inl ⟨by rfl, ?_⟩) ?_ ?_
            rotate_left
            · intro w'
              go_simp
              with_reducible rfl
            rotate_left
            · simp only [Act.put, List.setIfInBounds_toArray, List.set_cons_zero, List.set_cons_succ, i64_w, i32_w]
              rfl
            refine take_ (i := 1) (N := some 134) (v := ?_) (a' := ?_) #[true, true, true, false, false, true, false, true, false, false, false, false, false, false] rfl rfl (by kernel_rfl) (fun _ _ _ h => h) (Or.inl ⟨by rfl, ?_⟩) hHeld ?_ ?_
            rotate_left
            · rintro w' ⟨s0, s1⟩
              go_simp
              with_reducible rfl
            rotate_left
            · simp only [Act.put, List.setIfInBounds_toArray, List.set_cons_zero, List.set_cons_succ, i64_w, i32_w]
              rfl
            refine take_ (i := 6) (N := some 139) (v := ?_) (a' := ?_) #[true, true, true, false, false, true, true, true, false, false, false, false, false, false] rfl rfl (by kernel_rfl) (fun _ _ _ h => h) (Or.inl ⟨by rfl, ?_⟩) hHeld ?_ ?_
            rotate_left
            · rintro w' ⟨s0, s1⟩
              go_simp
              with_reducible rfl
            rotate_left
            · simp only [Act.put, List.setIfInBounds_toArray, List.set_cons_zero, List.set_cons_succ, i64_w, i32_w]
              rfl
            refine join_ (σ := Nat × Value × Nat) 4 #[true, true, true, true, true, true, true, true, true, false, true, false, false, false] (fun s_ => [(136, .slice (some ⟨s_.1, 0, none⟩) 1 1), (137, s_.2.1), (141, .slice (some ⟨s_.2.2, 0, none⟩) 1 1), (143, .pointer (some ⟨b13, 2, none⟩))]) (fun s_ w' => (w'.cell? ⟨b13, 2, none⟩ = some ((Value.slice AP ps.length cP)) ∧ w'.cell? ⟨b13, 3, none⟩ = some ((Value.slice AE es.length cE))) ∧ TwoRows w.heap.size b13 24 w9.drew ((Value.slice AP ps.length cP)) ((Value.slice AE es.length cE)) w' #[.int .i64 0, .int .i64 oI, (Value.slice AP ps.length cP), (Value.slice AE es.length cE)] s_.2.1 ((Value.slice AE es.length cE)) (ps ++ [0]) (es) ∧ w'.heap[s_.2.2]? = some (.cells #[.int .i64 ((b : Int))] 3 (0, 0))) ?_ ?_
            rotate_left
            · intro hCont
              refine two_ (i := 3) (j := 8) (Ni := some 136) (Nj := some 141) #[true, true, true, true, false, true, true, true, false, false, false, false, false, false] #[true, true, true, false, false, true, true, true, true, false, false, false, false, false] rfl rfl rfl rfl (by kernel_rfl) (by decide) (by decide) (fun K hK => ?_) (fun K hK => ?_)
              · skip
                refine value_ (w1 := ?_) (v := ?_) (by rfl) rfl ?_ ?_
                rotate_left 2
                · go_simp
                  constructor
                  · rfl
                  · rfl
                have hb1 : (w9.drew.alloc (.cells #[.int .i64 (0)] 3 (0, 0))).heap[w9.heap.size]? = some (.cells #[.int .i64 (0)] 3 (0, 0)) := by simpa using blk_new w9.drew (.cells #[.int .i64 (0)] 3 (0, 0))
                have hs9 := hst.new (below_alloc (Below.refl _ _) (.cells #[.int .i64 (0)] 3 (0, 0)))
                clear hst
                have hst := hs9
                clear hs9
                refine hK.out _ _ ⟨blk_cell hst.box 2, blk_cell hst.box 3⟩ (fun hHeld => ?_)
                clear hK K
                refine norm_ (a' := ?_) ?_ ?_
                rotate_left
                · show Act.put _ (some 136) _ = _
                  simp only [Act.put, List.setIfInBounds_toArray, List.set_cons_zero, List.set_cons_succ, i64_w, i32_w]
                  rfl
                refine two_ (i := 4) (j := 8) (Ni := some 137) (Nj := some 141) #[true, true, true, true, true, true, true, true, false, false, false, false, false, false] #[true, true, true, true, false, true, true, true, true, false, false, false, false, false] rfl rfl rfl rfl (by kernel_rfl) (by decide) (by decide) (fun K hK => ?_) (fun K hK => ?_)
                · skip
                  refine app_lit_step (C := w.heap.size) (.tmp 134) (.tmp 136) (v := (Value.slice AP ps.length cP)) (xs := ps) (0) ?_ ?_ ?_ ?_ hst.P hb1 hst.le (by omega) ?_
                  · rfl
                  · rfl
                  · rfl
                  · rfl
                  intro v1 w1 hr1 hg1 ho1
                  have hs9 := hst.growP hr1 hg1 ho1
                  clear hr1 hg1 ho1 hst hb1
                  have hst := hs9
                  clear hs9
                  refine hK.out _ _ ⟨blk_cell hst.box 2, blk_cell hst.box 3⟩ (fun hHeld => ?_)
                  clear hK K
                  refine norm_ (a' := ?_) ?_ ?_
                  rotate_left
                  · show Act.put _ (some 137) _ = _
                    simp only [Act.put, List.setIfInBounds_toArray, List.set_cons_zero, List.set_cons_succ, i64_w, i32_w]
                    rfl
                  refine pure_ (i := 10) (N := some 143) (v := ?_) (a' := ?_) #[true, true, true, true, true, true, true, true, false, false, true, false, false, false] rfl rfl (by kernel_rfl) (fun _ _ _ h => h) (Or.inl ⟨by rfl, ?_⟩) ?_ ?_
                  rotate_left
                  · intro w'
                    go_simp
                    with_reducible rfl
                  rotate_left
                  · simp only [Act.put, List.setIfInBounds_toArray, List.set_cons_zero, List.set_cons_succ, i64_w, i32_w]
                    rfl
                  refine one_ (i := 8) (N := some 141) #[true, true, true, true, true, true, true, true, true, false, true, false, false, false] rfl rfl (by kernel_rfl) (by decide) (fun K hK => ?_)
                  refine value_ (w1 := ?_) (v := ?_) (by rfl) rfl ?_ ?_
                  rotate_left 2
                  · go_simp
                    constructor
                    · rfl
                    · rfl
                  have hb2 : (w1.alloc (.cells #[.int .i64 ((b : Int))] 3 (0, 0))).heap[w1.heap.size]? = some (.cells #[.int .i64 ((b : Int))] 3 (0, 0)) := by simpa using blk_new w1 (.cells #[.int .i64 ((b : Int))] 3 (0, 0))
                  have hs9 := hst.new (below_alloc (Below.refl _ _) (.cells #[.int .i64 ((b : Int))] 3 (0, 0)))
                  clear hst
                  have hst := hs9
                  clear hs9
                  refine hK.out _ _ ⟨blk_cell hst.box 2, blk_cell hst.box 3⟩ (fun hHeld => ?_)
                  clear hK K
                  refine norm_ (a' := ?_) ?_ ?_
                  rotate_left
                  · show Act.put _ (some 141) _ = _
                    simp only [Act.put, List.setIfInBounds_toArray, List.set_cons_zero, List.set_cons_succ, i64_w, i32_w]
                    rfl
                  exact norm_ (by simp only [putAll, Act.put, List.setIfInBounds_toArray, List.set_cons_zero, List.set_cons_succ]) (hCont (⟨w9.heap.size, v1, w1.heap.size⟩ : Nat × Value × Nat) _ ⟨⟨blk_cell hst.box 2, blk_cell hst.box 3⟩, hst, hb2⟩)
                · skip
                  refine value_ (w1 := ?_) (v := ?_) (by rfl) rfl ?_ ?_
                  rotate_left 2
                  · go_simp
                    constructor
                    · rfl
                    · rfl
                  have hb2 : ((w9.drew.alloc (.cells #[.int .i64 (0)] 3 (0, 0))).alloc (.cells #[.int .i64 ((b : Int))] 3 (0, 0))).heap[w9.heap.size + 1]? = some (.cells #[.int .i64 ((b : Int))] 3 (0, 0)) := by simpa using blk_new (w9.drew.alloc (.cells #[.int .i64 (0)] 3 (0, 0))) (.cells #[.int .i64 ((b : Int))] 3 (0, 0))
                  have hd2 : ∀ j, ((Value.slice AP ps.length cP)).ownBlock = some j → j ≠ w9.heap.size + 1 := fun j hj => Nat.ne_of_lt (by have h9 := hst.P.lt j hj; simp at h9; omega)
                  have hb1' : ((w9.drew.alloc (.cells #[.int .i64 (0)] 3 (0, 0))).alloc (.cells #[.int .i64 ((b : Int))] 3 (0, 0))).heap[_]? = some _ := blk_alloc hb1 (.cells #[.int .i64 ((b : Int))] 3 (0, 0))
                  clear hb1
                  have hb1 := hb1'
                  clear hb1'
                  have hs9 := hst.new (below_alloc (Below.refl _ _) (.cells #[.int .i64 ((b : Int))] 3 (0, 0)))
                  clear hst
                  have hst := hs9
                  clear hs9
                  refine hK.out _ _ ⟨blk_cell hst.box 2, blk_cell hst.box 3⟩ (fun hHeld => ?_)
                  clear hK K
                  refine norm_ (a' := ?_) ?_ ?_
                  rotate_left
                  · show Act.put _ (some 141) _ = _
                    simp only [Act.put, List.setIfInBounds_toArray, List.set_cons_zero, List.set_cons_succ, i64_w, i32_w]
                    rfl
                  refine one_ (i := 4) (N := some 137) #[true, true, true, true, true, true, true, true, true, false, false, false, false, false] rfl rfl (by kernel_rfl) (by decide) (fun K hK => ?_)
                  refine app_lit_step (C := w.heap.size) (.tmp 134) (.tmp 136) (v := (Value.slice AP ps.length cP)) (xs := ps) (0) ?_ ?_ ?_ ?_ hst.P hb1 hst.le (by omega) ?_
                  · rfl
                  · rfl
                  · rfl
                  · rfl
                  intro v1 w1 hr1 hg1 ho1
                  have hb2' := lit_kept hb2 hd2 hg1
                  clear hb2 hd2
                  have hb2 := hb2'
                  clear hb2'
                  have hs9 := hst.growP hr1 hg1 ho1
                  clear hr1 hg1 ho1 hst hb1
                  have hst := hs9
                  clear hs9
                  refine hK.out _ _ ⟨blk_cell hst.box 2, blk_cell hst.box 3⟩ (fun hHeld => ?_)
                  clear hK K
                  refine norm_ (a' := ?_) ?_ ?_
                  rotate_left
                  · show Act.put _ (some 137) _ = _
                    simp only [Act.put, List.setIfInBounds_toArray, List.set_cons_zero, List.set_cons_succ, i64_w, i32_w]
                    rfl
                  refine pure_ (i := 10) (N := some 143) (v := ?_) (a' := ?_) #[true, true, true, true, true, true, true, true, true, false, true, false, false, false] rfl rfl (by kernel_rfl) (fun _ _ _ h => h) (Or.inl ⟨by rfl, ?_⟩) ?_ ?_
                  rotate_left
                  · intro w'
                    go_simp
                    with_reducible rfl
                  rotate_left
                  · simp only [Act.put, List.setIfInBounds_toArray, List.set_cons_zero, List.set_cons_succ, i64_w, i32_w]
                    rfl
                  exact norm_ (by simp only [putAll, Act.put, List.setIfInBounds_toArray, List.set_cons_zero, List.set_cons_succ]) (hCont (⟨w9.heap.size, v1, w9.heap.size + 1⟩ : Nat × Value × Nat) _ ⟨⟨blk_cell hst.box 2, blk_cell hst.box 3⟩, hst, hb2⟩)
              · skip
                refine value_ (w1 := ?_) (v := ?_) (by rfl) rfl ?_ ?_
                rotate_left 2
                · go_simp
                  constructor
                  · rfl
                  · rfl
                have hb2 : (w9.drew.alloc (.cells #[.int .i64 ((b : Int))] 3 (0, 0))).heap[w9.heap.size]? = some (.cells #[.int .i64 ((b : Int))] 3 (0, 0)) := by simpa using blk_new w9.drew (.cells #[.int .i64 ((b : Int))] 3 (0, 0))
                have hd2 : ∀ j, ((Value.slice AP ps.length cP)).ownBlock = some j → j ≠ w9.heap.size := fun j hj => Nat.ne_of_lt (by have h9 := hst.P.lt j hj; simp at h9; omega)
                have hs9 := hst.new (below_alloc (Below.refl _ _) (.cells #[.int .i64 ((b : Int))] 3 (0, 0)))
                clear hst
                have hst := hs9
                clear hs9
                refine hK.out _ _ ⟨blk_cell hst.box 2, blk_cell hst.box 3⟩ (fun hHeld => ?_)
                clear hK K
                refine norm_ (a' := ?_) ?_ ?_
                rotate_left
                · show Act.put _ (some 141) _ = _
                  simp only [Act.put, List.setIfInBounds_toArray, List.set_cons_zero, List.set_cons_succ, i64_w, i32_w]
                  rfl
                refine one_ (i := 3) (N := some 136) #[true, true, true, true, false, true, true, true, true, false, false, false, false, false] rfl rfl (by kernel_rfl) (by decide) (fun K hK => ?_)
                refine value_ (w1 := ?_) (v := ?_) (by rfl) rfl ?_ ?_
                rotate_left 2
                · go_simp
                  constructor
                  · rfl
                  · rfl
                have hb1 : ((w9.drew.alloc (.cells #[.int .i64 ((b : Int))] 3 (0, 0))).alloc (.cells #[.int .i64 (0)] 3 (0, 0))).heap[w9.heap.size + 1]? = some (.cells #[.int .i64 (0)] 3 (0, 0)) := by simpa using blk_new (w9.drew.alloc (.cells #[.int .i64 ((b : Int))] 3 (0, 0))) (.cells #[.int .i64 (0)] 3 (0, 0))
                have hb2' : ((w9.drew.alloc (.cells #[.int .i64 ((b : Int))] 3 (0, 0))).alloc (.cells #[.int .i64 (0)] 3 (0, 0))).heap[_]? = some _ := blk_alloc hb2 (.cells #[.int .i64 (0)] 3 (0, 0))
                clear hb2
                have hb2 := hb2'
                clear hb2'
                have hs9 := hst.new (below_alloc (Below.refl _ _) (.cells #[.int .i64 (0)] 3 (0, 0)))
                clear hst
                have hst := hs9
                clear hs9
                refine hK.out _ _ ⟨blk_cell hst.box 2, blk_cell hst.box 3⟩ (fun hHeld => ?_)
                clear hK K
                refine norm_ (a' := ?_) ?_ ?_
                rotate_left
                · show Act.put _ (some 136) _ = _
                  simp only [Act.put, List.setIfInBounds_toArray, List.set_cons_zero, List.set_cons_succ, i64_w, i32_w]
                  rfl
                refine one_ (i := 4) (N := some 137) #[true, true, true, true, true, true, true, true, true, false, false, false, false, false] rfl rfl (by kernel_rfl) (by decide) (fun K hK => ?_)
                refine app_lit_step (C := w.heap.size) (.tmp 134) (.tmp 136) (v := (Value.slice AP ps.length cP)) (xs := ps) (0) ?_ ?_ ?_ ?_ hst.P hb1 hst.le (by omega) ?_
                · rfl
                · rfl
                · rfl
                · rfl
                intro v1 w1 hr1 hg1 ho1
                have hb2' := lit_kept hb2 hd2 hg1
                clear hb2 hd2
                have hb2 := hb2'
                clear hb2'
                have hs9 := hst.growP hr1 hg1 ho1
                clear hr1 hg1 ho1 hst hb1
                have hst := hs9
                clear hs9
                refine hK.out _ _ ⟨blk_cell hst.box 2, blk_cell hst.box 3⟩ (fun hHeld => ?_)
                clear hK K
                refine norm_ (a' := ?_) ?_ ?_
                rotate_left
                · show Act.put _ (some 137) _ = _
                  simp only [Act.put, List.setIfInBounds_toArray, List.set_cons_zero, List.set_cons_succ, i64_w, i32_w]
                  rfl
                refine pure_ (i := 10) (N := some 143) (v := ?_) (a' := ?_) #[true, true, true, true, true, true, true, true, true, false, true, false, false, false] rfl rfl (by kernel_rfl) (fun _ _ _ h => h) (Or.inl ⟨by rfl, ?_⟩) ?_ ?_
                rotate_left
                · intro w'
                  go_simp
                  with_reducible rfl
                rotate_left
                · simp only [Act.put, List.setIfInBounds_toArray, List.set_cons_zero, List.set_cons_succ, i64_w, i32_w]
                  rfl
                exact norm_ (by simp only [putAll, Act.put, List.setIfInBounds_toArray, List.set_cons_zero, List.set_cons_succ]) (hCont (⟨w9.heap.size + 1, v1, w9.heap.size⟩ : Nat × Value × Nat) _ ⟨⟨blk_cell hst.box 2, blk_cell hst.box 3⟩, hst, hb2⟩)
            rintro ⟨b1, v1, b2⟩ w5 ⟨hHeld, hst, hb2⟩
            refine norm_ (a' := ?_) ?_ ?_
            rotate_left
            · simp only [putAll, Act.put, List.setIfInBounds_toArray, List.set_cons_zero, List.set_cons_succ]
              rfl
            refine one_ (i := 9) (N := some 142) #[true, true, true, true, true, true, true, true, true, true, true, false, false, false] rfl rfl (by kernel_rfl) (by decide) (fun K hK => ?_)
            refine app_lit_step (C := w.heap.size) (.tmp 139) (.tmp 141) (v := (Value.slice AE es.length cE)) (xs := es) ((b : Int)) ?_ ?_ ?_ ?_ hst.E hb2 hst.le (by omega) ?_
            · rfl
            · rfl
            · rfl
            · rfl
            intro v2 w6 hr2 hg2 ho2
            have hs9 := hst.growE hr2 hg2 ho2
            clear hr2 hg2 ho2 hst hb2
            have hst := hs9
            clear hs9
            obtain ⟨A1_, n1_, c1_, e1_⟩ := hst.P.shape
            subst e1_
            obtain ⟨A2_, n2_, c2_, e2_⟩ := hst.E.shape
            subst e2_
            have cP_ := blk_cell hst.box 2
            have cE_ := blk_cell hst.box 3
            have fP_ := blk_frozen hst.box 2
            have fE_ := blk_frozen hst.box 3
            refine hK.out _ _ ⟨blk_cell hst.box 2, blk_cell hst.box 3⟩ (fun hHeld => ?_)
            clear hK K
            refine norm_ (a' := ?_) ?_ ?_
            rotate_left
            · show Act.put _ (some 142) _ = _
              simp only [Act.put, List.setIfInBounds_toArray, List.set_cons_zero, List.set_cons_succ, i64_w, i32_w]
              rfl
            refine last_ (i := 11) (N := none) #[true, true, true, true, true, true, true, true, true, true, true, true, false, false] rfl rfl (by kernel_rfl) (by decide) (fun K hK => ?_)
            refine skip_ (w1 := ?_) (by rfl) rfl ?_ ?_
            rotate_left
            · go_simp
              rfl
            refine hK.out _ _ ?_
            clear hK K
            refine pure_ (i := 12) (N := some 144) (v := ?_) (a' := ?_) #[true, true, true, true, true, true, true, true, true, true, true, true, true, false] rfl rfl (by kernel_rfl) (fun _ _ _ h => h) (Or.inl ⟨by rfl, ?_⟩) ?_ ?_
            rotate_left
            · intro w'
              go_simp
              with_reducible rfl
            rotate_left
            · simp only [Act.put, List.setIfInBounds_toArray, List.set_cons_zero, List.set_cons_succ, i64_w, i32_w]
              rfl
            refine last_ (i := 13) (N := none) #[true, true, true, true, true, true, true, true, true, true, true, true, true, true] rfl rfl (by kernel_rfl) (by decide) (fun K hK => ?_)
            refine skip_ (w1 := ?_) (by rfl) rfl ?_ ?_
            rotate_left
            · go_simp
              rfl
            refine hK.out _ _ ?_
            clear hK K
            refine done_ (by kernel_rfl) ?_
            have hs9 := (hst.put 2 (.slice A1_ n1_ c1_) (cells2 := #[.int .i64 0, .int .i64 oI, (.slice A1_ n1_ c1_), (Value.slice AE es.length cE)]) rfl).put 3 (.slice A2_ n2_ c2_) (cells2 := #[.int .i64 0, .int .i64 oI, (.slice A1_ n1_ c1_), (.slice A2_ n2_ c2_)]) rfl
            clear hst cP_ cE_ fP_ fE_
            have hst := hs9
            clear hs9
            have hst9 := HSTd.out.two h713 hg13 hBw hst
            have HST9 := Aside0.mk hst9
            clear hst hst9 HSTd
            by_cases hb9 : b = 0
            · subst hb9
              skip
              go_wp2
              go_loopw [14, 24] (fun uv jv wr => ∃ (x dd : Nat) (acc z : List Int) (q : Nat), Aside0 (x + dd = t ∧ acc.length + dd = k ∧ z = al ++ acc) ∧ x ≤ t ∧ jv = .int .i64 x ∧ q ≤ 8 * s.size ∧ Aside0 (XDecSt w B g w.heap.size b13 s 0 oI wr q uv (.slice A1_ n1_ c1_) (.slice A2_ n2_ c2_) z (ps ++ [0]) (es ++ [((0 : Nat) : Int)])) ∧ Aside0 (valsR s 0 ((0 : Nat) : Int) dd acc 0 q = V)) (fun _ jv _ => t - (intOf jv).toNat)
              case atStart => exact ⟨f, k, [], al, q3, ⟨HFK.out, by simp, by simp⟩, by have := HFK.out; omega, rfl, hq5, HST9, HV⟩
              case round =>
                clear HST9 HV
                obtain ⟨x, dd, acc, z, q5, HL5, hx5, rfl, hq5, HST5, HV5⟩ := hrel
                by_cases hxt : x < t
                · obtain ⟨d2, hd2⟩ : ∃ d2, dd = d2 + 1 := ⟨dd - 1, by have := HL5.out.1; omega⟩
                  subst hd2
                  have j1 : (x : Int) < (t : Int) := by omega
                  have HV6 : Aside0 ((if (oneR s 0 ((0 : Nat) : Int) q5).2.1 = 0 then valsR s 0 ((0 : Nat) : Int) d2 (acc ++ [(oneR s 0 ((0 : Nat) : Int) q5).1]) 0 (oneR s 0 ((0 : Nat) : Int) q5).2.2 = V else V.2.1 = (oneR s 0 ((0 : Nat) : Int) q5).2.1)) := ⟨by
                    have := HV5.out
                    unfold valsR at this
                    rw [if_pos rfl] at this
                    by_cases h0 : (oneR s 0 ((0 : Nat) : Int) q5).2.1 = 0
                    · rw [if_pos h0]
                      rw [h0] at this
                      exact this
                    · rw [if_neg h0, ← this, valsR_bad _ _ _ _ _ _ _ h0]⟩
                  have hoat := oneR_at s 0 ((0 : Nat) : Int) q5 hq5
                  have hzl : z.length ≤ 70000 := by
                    have h1 := HL5.out.2.2
                    have h2 := HL5.out.2.1
                    have h3 := HAL.out.2
                    rw [h1, List.length_append]
                    omega
                  clear HV5
                  rw [show oneR s 0 ((0 : Nat) : Int) q5 = (0, 0, q5) from rfl] at HV6 hoat
                  have HV7 : Aside0 (valsR s 0 ((0 : Nat) : Int) d2 (acc ++ [0]) 0 q5 = V) := ⟨by have := HV6.out; rw [if_pos rfl] at this; exact this⟩
                  clear HV6
                  have hCw : w.heap.size ≤ wr.heap.size := HST5.out.tn.kept.1
                  go_wp2_with (at_builtin; (with_reducible refine app_ints (w0 := wr) (B := w.heap.size) (v := u14) (xs := z) (.tmp 170) (.tmp 172) 0 ?_ ?_ ?_ ?_ ?_ ?_ ?_ ?_ ?_); rfl; rfl; rfl; rfl; exact HST5.out.U; exact Below.refl _ _; exact hCw; omega; intro v1 w15 HI6 HB6 HG6 HO6)
                  have hst15 := HST5.out.all hBw HI6.out HG6.out HO6.out
                  have HST15 := Aside0.mk hst15
                  clear hst15 HI6 HB6 HG6 HO6 HST5
                  refine ⟨⟨_, _, _, _, ⟨x + 1, d2, acc ++ [0], z ++ [0], ⟨by have := HL5.out.1; omega, by rw [List.length_append, List.length_singleton]; have := HL5.out.2.1; omega, by rw [HL5.out.2.2, List.append_assoc]⟩, by omega, by go_num, q5, hq5, HST15, HV7⟩, rfl, rfl, rfl, rfl⟩, ?_⟩
                  simp [intOf]
                  omega
                · have hd0 : dd = 0 := by have := HL5.out.1; omega
                  subst hd0
                  have hX5 : decL s n Oq 4 d (i + 1) (al ++ acc) (ps ++ [0]) (es ++ [((0 : Nat) : Int)]) q5 = X := by
                    have h1 := HVX.out
                    have h2 : (acc, (0 : Int), q5) = V := HV5.out
                    rw [← h2] at h1
                    exact h1
                  have HX5 := Aside0.mk hX5
                  have j1 : ¬ (x : Int) < (t : Int) := by omega
                  clear hX5 HV5 HVX
                  go_wp2
                  go_roundw
                  case rel => exact ⟨i + 1, _, _, z, ps ++ [0], es ++ [((0 : Nat) : Int)], q5, by omega, by go_num, hq5, ⟨by rw [HL5.out.2.2, List.length_append]; have h2 := HL5.out.2.1; have h3 := HAL.out.1; omega, by rw [List.length_append, HLN2.out.1]; rfl, by rw [List.length_append, HLN2.out.2]; rfl⟩, HST5, ⟨by rw [HD.out, HL5.out.2.2]; exact HX5.out⟩⟩
                  case measure => simp [intOf]; omega
            · skip
              have hb0 : (0 : Int) < (b : Int) := by omega
              have hb1 : ¬ (b : Int) < 0 := by omega
              go_wp2
              go_loopw [14, 24] (fun uv jv wr => ∃ (x dd : Nat) (acc z : List Int) (q : Nat), Aside0 (x + dd = t ∧ acc.length + dd = k ∧ z = al ++ acc) ∧ x ≤ t ∧ jv = .int .i64 x ∧ q ≤ 8 * s.size ∧ Aside0 (XDecSt w B g w.heap.size b13 s 0 oI wr q uv (.slice A1_ n1_ c1_) (.slice A2_ n2_ c2_) z (ps ++ [0]) (es ++ [(b : Int)])) ∧ Aside0 (valsR s 0 (b : Int) dd acc 0 q = V)) (fun _ jv _ => t - (intOf jv).toNat)
              case atStart => exact ⟨f, k, [], al, q3, ⟨HFK.out, by simp, by simp⟩, by have := HFK.out; omega, rfl, hq5, HST9, HV⟩
              case round =>
                clear HST9 HV
                obtain ⟨x, dd, acc, z, q5, HL5, hx5, rfl, hq5, HST5, HV5⟩ := hrel
                by_cases hxt : x < t
                · obtain ⟨d2, hd2⟩ : ∃ d2, dd = d2 + 1 := ⟨dd - 1, by have := HL5.out.1; omega⟩
                  subst hd2
                  have j1 : (x : Int) < (t : Int) := by omega
                  have HV6 : Aside0 ((if (oneR s 0 (b : Int) q5).2.1 = 0 then valsR s 0 (b : Int) d2 (acc ++ [(oneR s 0 (b : Int) q5).1]) 0 (oneR s 0 (b : Int) q5).2.2 = V else V.2.1 = (oneR s 0 (b : Int) q5).2.1)) := ⟨by
                    have := HV5.out
                    unfold valsR at this
                    rw [if_pos rfl] at this
                    by_cases h0 : (oneR s 0 (b : Int) q5).2.1 = 0
                    · rw [if_pos h0]
                      rw [h0] at this
                      exact this
                    · rw [if_neg h0, ← this, valsR_bad _ _ _ _ _ _ _ h0]⟩
                  have hoat := oneR_at s 0 (b : Int) q5 hq5
                  have hzl : z.length ≤ 70000 := by
                    have h1 := HL5.out.2.2
                    have h2 := HL5.out.2.1
                    have h3 := HAL.out.2
                    rw [h1, List.length_append]
                    omega
                  clear HV5
                  rw [show oneR s 0 (b : Int) q5 = signedR s q5 (b : Int) from by unfold oneR; rw [if_neg (show ¬ (b : Int) < 0 by omega), if_pos (show (0 : Int) < (b : Int) by omega)]] at HV6 hoat
                  have hq56 := Aside0.mk (HSIGN.out wr q5 (b : Int) (by omega) hq5 HST5.out.rd)
                  generalize signedR s q5 (b : Int) = gr at hq56 HV6 hoat
                  obtain ⟨yv, e6, q6⟩ := gr
                  simp only at hq56 HV6 hoat
                  go_wp2_with fail
                  with_reducible refine hq56.out.mono ?_
                  rintro e w14 ⟨rfl, hr14, ht14⟩
                  have hst14 := HST5.out.turn hr14 ht14 hb7 (fun h => hg13 h.symm)
                  have HST14 := Aside0.mk hst14
                  clear hst14 hr14 ht14 hq56 HST5
                  cases he6 : e6 != 0 with
                  | true =>
                    have hn6' : e6 ≠ 0 := by simpa using he6
                    have HXN : Aside0 (X = none) := ⟨by have h1 := HVX.out; have h2 := HV6.out; rw [if_neg hn6'] at h2; rw [h2, if_neg hn6'] at h1; exact h1.symm⟩
                    clear hn6' HV6
                    go_wp2_with ((with_reducible refine wpList_store_row ?_ 24 (.tmp 7) (.tmp 169) ?_ w.heap.size zRice ?_ ?_ 24 zRice HST14.out.z7 (rc_info _ _ _ _) ?_ (rc_one _ _ _ _ _ _ _ _) ?_); rfl; rfl; rfl; rfl; rfl)
                    refine bodyPost_ret (results_tct rfl _ _ w.heap.size 24 zRice (0, 0) _ rfl (setRow_heap _ _ _ _ _ _ HST14.out.z7) Try.underlying24 rfl (rc_info _ _ _ _)) rfl ?_
                    exact .inl ⟨HXN.out, rfl, ⟨q6, HST14.out.rd.setRow hb7, hoat⟩, HST14.out.tn.setRow (Nat.le_refl _) hBw⟩
                  | false =>
                    have hz6 : e6 = 0 := by simpa using he6
                    subst hz6
                    have HV7 : Aside0 (valsR s 0 (b : Int) d2 (acc ++ [yv]) 0 q6 = V) := ⟨by have := HV6.out; rw [if_pos rfl] at this; exact this⟩
                    clear HV6
                    have hCw : w.heap.size ≤ w14.heap.size := HST14.out.tn.kept.1
                    go_wp2_with (at_builtin; (with_reducible refine app_ints (w0 := w14) (B := w.heap.size) (v := u14) (xs := z) (.tmp 170) (.tmp 172) (yv) ?_ ?_ ?_ ?_ ?_ ?_ ?_ ?_ ?_); rfl; rfl; rfl; rfl; exact HST14.out.U; exact Below.refl _ _; exact hCw; omega; intro v1 w15 HI6 HB6 HG6 HO6)
                    have hst15 := HST14.out.all hBw HI6.out HG6.out HO6.out
                    have HST15 := Aside0.mk hst15
                    clear hst15 HI6 HB6 HG6 HO6 HST14
                    go_wp2
                    go_roundw
                    case rel => exact ⟨x + 1, d2, acc ++ [yv], z ++ [yv], q6, ⟨by have := HL5.out.1; omega, by rw [List.length_append, List.length_singleton]; have := HL5.out.2.1; omega, by rw [HL5.out.2.2, List.append_assoc]⟩, by omega, by go_num, hoat, HST15, HV7⟩
                    case measure => simp [intOf]; omega
                · have hd0 : dd = 0 := by have := HL5.out.1; omega
                  subst hd0
                  have hX5 : decL s n Oq 4 d (i + 1) (al ++ acc) (ps ++ [0]) (es ++ [(b : Int)]) q5 = X := by
                    have h1 := HVX.out
                    have h2 : (acc, (0 : Int), q5) = V := HV5.out
                    rw [← h2] at h1
                    exact h1
                  have HX5 := Aside0.mk hX5
                  have j1 : ¬ (x : Int) < (t : Int) := by omega
                  clear hX5 HV5 HVX
                  go_wp2
                  go_roundw
                  case rel => exact ⟨i + 1, _, _, z, ps ++ [0], es ++ [(b : Int)], q5, by omega, by go_num, hq5, ⟨by rw [HL5.out.2.2, List.length_append]; have h2 := HL5.out.2.1; have h3 := HAL.out.1; omega, by rw [List.length_append, HLN2.out.1]; rfl, by rw [List.length_append, HLN2.out.2]; rfl⟩, HST5, ⟨by rw [HD.out, HL5.out.2.2]; exact HX5.out⟩⟩
                  case measure => simp [intOf]; omega
        · have hab : ((a : Int) == 15) = false := beq_eq_false_iff_ne.mpr (by omega)
          rw [if_neg (fun h => ha (by have := h.2; simpa using this))] at hH
          clear ha
          have HV0 : Aside0 (∃ V, valsR s (a : Int) (-1) k [] 0 q1 = V ∧ (if V.2.1 = 0 then decL s n Oq 4 d (i + 1) (al ++ V.1) (ps ++ [(a : Int)]) (es ++ [(-1)]) V.2.2 else none) = X) := ⟨⟨_, rfl, by have := HX2.out; rw [hH] at this; exact this⟩⟩
          obtain ⟨V, hV, hVX⟩ := HV0.out
          have HV := Aside0.mk hV
          have HVX := Aside0.mk hVX
          clear HV0 hV hVX hH HX2
          have hst8 := HST8.out.below hB (below_drew (Below.refl w8.heap.size w8))
          have HSTd := Aside0.mk hst8
          have hst := TwoRows.start hst8.r13 (by decide) hst8.P hst8.E hst8.d3 hB13
          have hpl : ps.length ≤ 65536 := by have := HLN2.out.1; omega
          have hel : es.length ≤ 65536 := by have := HLN2.out.2; omega
          clear hst8 HST8
          go_wp2
          refine start_ (n := 14) (S := fun w' => w'.cell? ⟨b13, 2, none⟩ = some ((Value.slice AP ps.length cP)) ∧ w'.cell? ⟨b13, 3, none⟩ = some ((Value.slice AE es.length cE))) (ds := [11, 13]) #[false, false, false, false, false, false, false, false, false, false, false, false, false, false] (by kernel_rfl) rfl rfl ⟨blk_cell hst.box 2, blk_cell hst.box 3⟩ (fun hHeld => ?_)
          refine pure_ (i := 0) (N := some 133) (v := ?_) (a' := ?_) #[true, false, false, false, false, false, false, false, false, false, false, false, false, false] rfl rfl (by kernel_rfl) (fun _ _ _ h => h) (Or.inl ⟨by rfl, ?_⟩) ?_ ?_
          rotate_left
          · intro w'
            go_simp
            with_reducible rfl
          rotate_left
          · simp only [Act.put, List.setIfInBounds_toArray, List.set_cons_zero, List.set_cons_succ, i64_w, i32_w]
            rfl
          refine pure_ (i := 2) (N := some 135) (v := ?_) (a' := ?_) #[true, false, true, false, false, false, false, false, false, false, false, false, false, false] rfl rfl (by kernel_rfl) (fun _ _ _ h => h) (Or.inl ⟨by rfl, ?_⟩) ?_ ?_
          rotate_left
          · intro w'
            go_simp
            with_reducible rfl
          rotate_left
          · simp only [Act.put, List.setIfInBounds_toArray, List.set_cons_zero, List.set_cons_succ, i64_w, i32_w]
            rfl
          refine pure_ (i := 5) (N := some 138) (v := ?_) (a' := ?_) #[true, false, true, false, false, true, false, false, false, false, false, false, false, false] rfl rfl (by kernel_rfl) (fun _ _ _ h => h) (Or.inl ⟨by rfl, ?_⟩) ?_ ?_
          rotate_left
          · intro w'
            go_simp
            with_reducible rfl
          rotate_left
          · simp only [Act.put, List.setIfInBounds_toArray, List.set_cons_zero, List.set_cons_succ, i64_w, i32_w]
            rfl
          refine pure_ (i := 7) (N := some 140) (v := ?_) (a' := ?_) #[true, false, true, false, false, true, false, true, false, false, false, false, false, false] rfl rfl (by kernel_rfl) (fun _ _ _ h => h) (Or.inl ⟨by rfl, ?_⟩) ?_ ?_
          rotate_left
          · intro w'
            go_simp
            with_reducible rfl
          rotate_left
          · simp only [Act.put, List.setIfInBounds_toArray, List.set_cons_zero, List.set_cons_succ, i64_w, i32_w]
            rfl
          refine take_ (i := 1) (N := some 134) (v := ?_) (a' := ?_) #[true, true, true, false, false, true, false, true, false, false, false, false, false, false] rfl rfl (by kernel_rfl) (fun _ _ _ h => h) (Or.inl ⟨by rfl, ?_⟩) hHeld ?_ ?_
          rotate_left
          · rintro w' ⟨s0, s1⟩
            go_simp
            with_reducible rfl
          rotate_left
          · simp only [Act.put, List.setIfInBounds_toArray, List.set_cons_zero, List.set_cons_succ, i64_w, i32_w]
            rfl
          refine take_ (i := 6) (N := some 139) (v := ?_) (a' := ?_) #[true, true, true, false, false, true, true, true, false, false, false, false, false, false] rfl rfl (by kernel_rfl) (fun _ _ _ h => h) (Or.inl ⟨by rfl, ?_⟩) hHeld ?_ ?_
          rotate_left
          · rintro w' ⟨s0, s1⟩
            go_simp
            with_reducible rfl
          rotate_left
          · simp only [Act.put, List.setIfInBounds_toArray, List.set_cons_zero, List.set_cons_succ, i64_w, i32_w]
            rfl
          refine join_ (σ := Nat × Value × Nat) 4 #[true, true, true, true, true, true, true, true, true, false, true, false, false, false] (fun s_ => [(136, .slice (some ⟨s_.1, 0, none⟩) 1 1), (137, s_.2.1), (141, .slice (some ⟨s_.2.2, 0, none⟩) 1 1), (143, .pointer (some ⟨b13, 2, none⟩))]) (fun s_ w' => (w'.cell? ⟨b13, 2, none⟩ = some ((Value.slice AP ps.length cP)) ∧ w'.cell? ⟨b13, 3, none⟩ = some ((Value.slice AE es.length cE))) ∧ TwoRows w.heap.size b13 24 w8.drew ((Value.slice AP ps.length cP)) ((Value.slice AE es.length cE)) w' #[.int .i64 0, .int .i64 oI, (Value.slice AP ps.length cP), (Value.slice AE es.length cE)] s_.2.1 ((Value.slice AE es.length cE)) (ps ++ [(a : Int)]) (es) ∧ w'.heap[s_.2.2]? = some (.cells #[.int .i64 ((-1))] 3 (0, 0))) ?_ ?_
          rotate_left
          · intro hCont
            refine two_ (i := 3) (j := 8) (Ni := some 136) (Nj := some 141) #[true, true, true, true, false, true, true, true, false, false, false, false, false, false] #[true, true, true, false, false, true, true, true, true, false, false, false, false, false] rfl rfl rfl rfl (by kernel_rfl) (by decide) (by decide) (fun K hK => ?_) (fun K hK => ?_)
            · skip
              refine value_ (w1 := ?_) (v := ?_) (by rfl) rfl ?_ ?_
              rotate_left 2
              · go_simp
                constructor
                · rfl
                · rfl
              have hb1 : (w8.drew.alloc (.cells #[.int .i64 ((a : Int))] 3 (0, 0))).heap[w8.heap.size]? = some (.cells #[.int .i64 ((a : Int))] 3 (0, 0)) := by simpa using blk_new w8.drew (.cells #[.int .i64 ((a : Int))] 3 (0, 0))
              have hs9 := hst.new (below_alloc (Below.refl _ _) (.cells #[.int .i64 ((a : Int))] 3 (0, 0)))
              clear hst
              have hst := hs9
              clear hs9
              refine hK.out _ _ ⟨blk_cell hst.box 2, blk_cell hst.box 3⟩ (fun hHeld => ?_)
              clear hK K
              refine norm_ (a' := ?_) ?_ ?_
              rotate_left
              · show Act.put _ (some 136) _ = _
                simp only [Act.put, List.setIfInBounds_toArray, List.set_cons_zero, List.set_cons_succ, i64_w, i32_w]
                rfl
              refine two_ (i := 4) (j := 8) (Ni := some 137) (Nj := some 141) #[true, true, true, true, true, true, true, true, false, false, false, false, false, false] #[true, true, true, true, false, true, true, true, true, false, false, false, false, false] rfl rfl rfl rfl (by kernel_rfl) (by decide) (by decide) (fun K hK => ?_) (fun K hK => ?_)
              · skip
                refine app_lit_step (C := w.heap.size) (.tmp 134) (.tmp 136) (v := (Value.slice AP ps.length cP)) (xs := ps) ((a : Int)) ?_ ?_ ?_ ?_ hst.P hb1 hst.le (by omega) ?_
                · rfl
                · rfl
                · rfl
                · rfl
                intro v1 w1 hr1 hg1 ho1
                have hs9 := hst.growP hr1 hg1 ho1
                clear hr1 hg1 ho1 hst hb1
                have hst := hs9
                clear hs9
                refine hK.out _ _ ⟨blk_cell hst.box 2, blk_cell hst.box 3⟩ (fun hHeld => ?_)
                clear hK K
                refine norm_ (a' := ?_) ?_ ?_
                rotate_left
                · show Act.put _ (some 137) _ = _
                  simp only [Act.put, List.setIfInBounds_toArray, List.set_cons_zero, List.set_cons_succ, i64_w, i32_w]
                  rfl
                refine pure_ (i := 10) (N := some 143) (v := ?_) (a' := ?_) #[true, true, true, true, true, true, true, true, false, false, true, false, false, false] rfl rfl (by kernel_rfl) (fun _ _ _ h => h) (Or.inl ⟨by rfl, ?_⟩) ?_ ?_
                rotate_left
                · intro w'
                  go_simp
                  with_reducible rfl
                rotate_left
                · simp only [Act.put, List.setIfInBounds_toArray, List.set_cons_zero, List.set_cons_succ, i64_w, i32_w]
                  rfl
                refine one_ (i := 8) (N := some 141) #[true, true, true, true, true, true, true, true, true, false, true, false, false, false] rfl rfl (by kernel_rfl) (by decide) (fun K hK => ?_)
                refine value_ (w1 := ?_) (v := ?_) (by rfl) rfl ?_ ?_
                rotate_left 2
                · go_simp
                  constructor
                  · rfl
                  · rfl
                have hb2 : (w1.alloc (.cells #[.int .i64 ((-1))] 3 (0, 0))).heap[w1.heap.size]? = some (.cells #[.int .i64 ((-1))] 3 (0, 0)) := by simpa using blk_new w1 (.cells #[.int .i64 ((-1))] 3 (0, 0))
                have hs9 := hst.new (below_alloc (Below.refl _ _) (.cells #[.int .i64 ((-1))] 3 (0, 0)))
                clear hst
                have hst := hs9
                clear hs9
                refine hK.out _ _ ⟨blk_cell hst.box 2, blk_cell hst.box 3⟩ (fun hHeld => ?_)
                clear hK K
                refine norm_ (a' := ?_) ?_ ?_
                rotate_left
                · show Act.put _ (some 141) _ = _
                  simp only [Act.put, List.setIfInBounds_toArray, List.set_cons_zero, List.set_cons_succ, i64_w, i32_w]
                  rfl
                exact norm_ (by simp only [putAll, Act.put, List.setIfInBounds_toArray, List.set_cons_zero, List.set_cons_succ]) (hCont (⟨w8.heap.size, v1, w1.heap.size⟩ : Nat × Value × Nat) _ ⟨⟨blk_cell hst.box 2, blk_cell hst.box 3⟩, hst, hb2⟩)
              · skip
                refine value_ (w1 := ?_) (v := ?_) (by rfl) rfl ?_ ?_
                rotate_left 2
                · go_simp
                  constructor
                  · rfl
                  · rfl
                have hb2 : ((w8.drew.alloc (.cells #[.int .i64 ((a : Int))] 3 (0, 0))).alloc (.cells #[.int .i64 ((-1))] 3 (0, 0))).heap[w8.heap.size + 1]? = some (.cells #[.int .i64 ((-1))] 3 (0, 0)) := by simpa using blk_new (w8.drew.alloc (.cells #[.int .i64 ((a : Int))] 3 (0, 0))) (.cells #[.int .i64 ((-1))] 3 (0, 0))
                have hd2 : ∀ j, ((Value.slice AP ps.length cP)).ownBlock = some j → j ≠ w8.heap.size + 1 := fun j hj => Nat.ne_of_lt (by have h9 := hst.P.lt j hj; simp at h9; omega)
                have hb1' : ((w8.drew.alloc (.cells #[.int .i64 ((a : Int))] 3 (0, 0))).alloc (.cells #[.int .i64 ((-1))] 3 (0, 0))).heap[_]? = some _ := blk_alloc hb1 (.cells #[.int .i64 ((-1))] 3 (0, 0))
                clear hb1
                have hb1 := hb1'
                clear hb1'
                have hs9 := hst.new (below_alloc (Below.refl _ _) (.cells #[.int .i64 ((-1))] 3 (0, 0)))
                clear hst
                have hst := hs9
                clear hs9
                refine hK.out _ _ ⟨blk_cell hst.box 2, blk_cell hst.box 3⟩ (fun hHeld => ?_)
                clear hK K
                refine norm_ (a' := ?_) ?_ ?_
                rotate_left
                · show Act.put _ (some 141) _ = _
                  simp only [Act.put, List.setIfInBounds_toArray, List.set_cons_zero, List.set_cons_succ, i64_w, i32_w]
                  rfl
                refine one_ (i := 4) (N := some 137) #[true, true, true, true, true, true, true, true, true, false, false, false, false, false] rfl rfl (by kernel_rfl) (by decide) (fun K hK => ?_)
                refine app_lit_step (C := w.heap.size) (.tmp 134) (.tmp 136) (v := (Value.slice AP ps.length cP)) (xs := ps) ((a : Int)) ?_ ?_ ?_ ?_ hst.P hb1 hst.le (by omega) ?_
                · rfl
                · rfl
                · rfl
                · rfl
                intro v1 w1 hr1 hg1 ho1
                have hb2' := lit_kept hb2 hd2 hg1
                clear hb2 hd2
                have hb2 := hb2'
                clear hb2'
                have hs9 := hst.growP hr1 hg1 ho1
                clear hr1 hg1 ho1 hst hb1
                have hst := hs9
                clear hs9
                refine hK.out _ _ ⟨blk_cell hst.box 2, blk_cell hst.box 3⟩ (fun hHeld => ?_)
                clear hK K
                refine norm_ (a' := ?_) ?_ ?_
                rotate_left
                · show Act.put _ (some 137) _ = _
                  simp only [Act.put, List.setIfInBounds_toArray, List.set_cons_zero, List.set_cons_succ, i64_w, i32_w]
                  rfl
                refine pure_ (i := 10) (N := some 143) (v := ?_) (a' := ?_) #[true, true, true, true, true, true, true, true, true, false, true, false, false, false] rfl rfl (by kernel_rfl) (fun _ _ _ h => h) (Or.inl ⟨by rfl, ?_⟩) ?_ ?_
                rotate_left
                · intro w'
                  go_simp
                  with_reducible rfl
                rotate_left
                · simp only [Act.put, List.setIfInBounds_toArray, List.set_cons_zero, List.set_cons_succ, i64_w, i32_w]
                  rfl
                exact norm_ (by simp only [putAll, Act.put, List.setIfInBounds_toArray, List.set_cons_zero, List.set_cons_succ]) (hCont (⟨w8.heap.size, v1, w8.heap.size + 1⟩ : Nat × Value × Nat) _ ⟨⟨blk_cell hst.box 2, blk_cell hst.box 3⟩, hst, hb2⟩)
            · skip
              refine value_ (w1 := ?_) (v := ?_) (by rfl) rfl ?_ ?_
              rotate_left 2
              · go_simp
                constructor
                · rfl
                · rfl
              have hb2 : (w8.drew.alloc (.cells #[.int .i64 ((-1))] 3 (0, 0))).heap[w8.heap.size]? = some (.cells #[.int .i64 ((-1))] 3 (0, 0)) := by simpa using blk_new w8.drew (.cells #[.int .i64 ((-1))] 3 (0, 0))
              have hd2 : ∀ j, ((Value.slice AP ps.length cP)).ownBlock = some j → j ≠ w8.heap.size := fun j hj => Nat.ne_of_lt (by have h9 := hst.P.lt j hj; simp at h9; omega)
              have hs9 := hst.new (below_alloc (Below.refl _ _) (.cells #[.int .i64 ((-1))] 3 (0, 0)))
              clear hst
              have hst := hs9
              clear hs9
              refine hK.out _ _ ⟨blk_cell hst.box 2, blk_cell hst.box 3⟩ (fun hHeld => ?_)
              clear hK K
              refine norm_ (a' := ?_) ?_ ?_
              rotate_left
              · show Act.put _ (some 141) _ = _
                simp only [Act.put, List.setIfInBounds_toArray, List.set_cons_zero, List.set_cons_succ, i64_w, i32_w]
                rfl
              refine one_ (i := 3) (N := some 136) #[true, true, true, true, false, true, true, true, true, false, false, false, false, false] rfl rfl (by kernel_rfl) (by decide) (fun K hK => ?_)
              refine value_ (w1 := ?_) (v := ?_) (by rfl) rfl ?_ ?_
              rotate_left 2
              · go_simp
                constructor
                · rfl
                · rfl
              have hb1 : ((w8.drew.alloc (.cells #[.int .i64 ((-1))] 3 (0, 0))).alloc (.cells #[.int .i64 ((a : Int))] 3 (0, 0))).heap[w8.heap.size + 1]? = some (.cells #[.int .i64 ((a : Int))] 3 (0, 0)) := by simpa using blk_new (w8.drew.alloc (.cells #[.int .i64 ((-1))] 3 (0, 0))) (.cells #[.int .i64 ((a : Int))] 3 (0, 0))
              have hb2' : ((w8.drew.alloc (.cells #[.int .i64 ((-1))] 3 (0, 0))).alloc (.cells #[.int .i64 ((a : Int))] 3 (0, 0))).heap[_]? = some _ := blk_alloc hb2 (.cells #[.int .i64 ((a : Int))] 3 (0, 0))
              clear hb2
              have hb2 := hb2'
              clear hb2'
              have hs9 := hst.new (below_alloc (Below.refl _ _) (.cells #[.int .i64 ((a : Int))] 3 (0, 0)))
              clear hst
              have hst := hs9
              clear hs9
              refine hK.out _ _ ⟨blk_cell hst.box 2, blk_cell hst.box 3⟩ (fun hHeld => ?_)
              clear hK K
              refine norm_ (a' := ?_) ?_ ?_
              rotate_left
              · show Act.put _ (some 136) _ = _
                simp only [Act.put, List.setIfInBounds_toArray, List.set_cons_zero, List.set_cons_succ, i64_w, i32_w]
                rfl
              refine one_ (i := 4) (N := some 137) #[true, true, true, true, true, true, true, true, true, false, false, false, false, false] rfl rfl (by kernel_rfl) (by decide) (fun K hK => ?_)
              refine app_lit_step (C := w.heap.size) (.tmp 134) (.tmp 136) (v := (Value.slice AP ps.length cP)) (xs := ps) ((a : Int)) ?_ ?_ ?_ ?_ hst.P hb1 hst.le (by omega) ?_
              · rfl
              · rfl
              · rfl
              · rfl
              intro v1 w1 hr1 hg1 ho1
              have hb2' := lit_kept hb2 hd2 hg1
              clear hb2 hd2
              have hb2 := hb2'
              clear hb2'
              have hs9 := hst.growP hr1 hg1 ho1
              clear hr1 hg1 ho1 hst hb1
              have hst := hs9
              clear hs9
              refine hK.out _ _ ⟨blk_cell hst.box 2, blk_cell hst.box 3⟩ (fun hHeld => ?_)
              clear hK K
              refine norm_ (a' := ?_) ?_ ?_
              rotate_left
              · show Act.put _ (some 137) _ = _
                simp only [Act.put, List.setIfInBounds_toArray, List.set_cons_zero, List.set_cons_succ, i64_w, i32_w]
                rfl
              refine pure_ (i := 10) (N := some 143) (v := ?_) (a' := ?_) #[true, true, true, true, true, true, true, true, true, false, true, false, false, false] rfl rfl (by kernel_rfl) (fun _ _ _ h => h) (Or.inl ⟨by rfl, ?_⟩) ?_ ?_
              rotate_left
              · intro w'
                go_simp
                with_reducible rfl
              rotate_left
              · simp only [Act.put, List.setIfInBounds_toArray, List.set_cons_zero, List.set_cons_succ, i64_w, i32_w]
                rfl
              exact norm_ (by simp only [putAll, Act.put, List.setIfInBounds_toArray, List.set_cons_zero, List.set_cons_succ]) (hCont (⟨w8.heap.size + 1, v1, w8.heap.size⟩ : Nat × Value × Nat) _ ⟨⟨blk_cell hst.box 2, blk_cell hst.box 3⟩, hst, hb2⟩)
          rintro ⟨b1, v1, b2⟩ w5 ⟨hHeld, hst, hb2⟩
          refine norm_ (a' := ?_) ?_ ?_
          rotate_left
          · simp only [putAll, Act.put, List.setIfInBounds_toArray, List.set_cons_zero, List.set_cons_succ]
            rfl
          refine one_ (i := 9) (N := some 142) #[true, true, true, true, true, true, true, true, true, true, true, false, false, false] rfl rfl (by kernel_rfl) (by decide) (fun K hK => ?_)
          refine app_lit_step (C := w.heap.size) (.tmp 139) (.tmp 141) (v := (Value.slice AE es.length cE)) (xs := es) ((-1)) ?_ ?_ ?_ ?_ hst.E hb2 hst.le (by omega) ?_
          · rfl
          · rfl
          · rfl
          · rfl
          intro v2 w6 hr2 hg2 ho2
          have hs9 := hst.growE hr2 hg2 ho2
          clear hr2 hg2 ho2 hst hb2
          have hst := hs9
          clear hs9
          obtain ⟨A1_, n1_, c1_, e1_⟩ := hst.P.shape
          subst e1_
          obtain ⟨A2_, n2_, c2_, e2_⟩ := hst.E.shape
          subst e2_
          have cP_ := blk_cell hst.box 2
          have cE_ := blk_cell hst.box 3
          have fP_ := blk_frozen hst.box 2
          have fE_ := blk_frozen hst.box 3
          refine hK.out _ _ ⟨blk_cell hst.box 2, blk_cell hst.box 3⟩ (fun hHeld => ?_)
          clear hK K
          refine norm_ (a' := ?_) ?_ ?_
          rotate_left
          · show Act.put _ (some 142) _ = _
            simp only [Act.put, List.setIfInBounds_toArray, List.set_cons_zero, List.set_cons_succ, i64_w, i32_w]
            rfl
          refine last_ (i := 11) (N := none) #[true, true, true, true, true, true, true, true, true, true, true, true, false, false] rfl rfl (by kernel_rfl) (by decide) (fun K hK => ?_)
          refine skip_ (w1 := ?_) (by rfl) rfl ?_ ?_
          rotate_left
          · go_simp
            rfl
          refine hK.out _ _ ?_
          clear hK K
          refine pure_ (i := 12) (N := some 144) (v := ?_) (a' := ?_) #[true, true, true, true, true, true, true, true, true, true, true, true, true, false] rfl rfl (by kernel_rfl) (fun _ _ _ h => h) (Or.inl ⟨by rfl, ?_⟩) ?_ ?_
          rotate_left
          · intro w'
            go_simp
            with_reducible rfl
          rotate_left
          · simp only [Act.put, List.setIfInBounds_toArray, List.set_cons_zero, List.set_cons_succ, i64_w, i32_w]
            rfl
          refine last_ (i := 13) (N := none) #[true, true, true, true, true, true, true, true, true, true, true, true, true, true] rfl rfl (by kernel_rfl) (by decide) (fun K hK => ?_)
          refine skip_ (w1 := ?_) (by rfl) rfl ?_ ?_
          rotate_left
          · go_simp
            rfl
          refine hK.out _ _ ?_
          clear hK K
          refine done_ (by kernel_rfl) ?_
          have hs9 := (hst.put 2 (.slice A1_ n1_ c1_) (cells2 := #[.int .i64 0, .int .i64 oI, (.slice A1_ n1_ c1_), (Value.slice AE es.length cE)]) rfl).put 3 (.slice A2_ n2_ c2_) (cells2 := #[.int .i64 0, .int .i64 oI, (.slice A1_ n1_ c1_), (.slice A2_ n2_ c2_)]) rfl
          clear hst cP_ cE_ fP_ fE_
          have hst := hs9
          clear hs9
          have hst9 := HSTd.out.two h713 hg13 hBw hst
          have HST9 := Aside0.mk hst9
          clear hst hst9 HSTd
          skip
          go_wp2
          go_loopw [14, 24] (fun uv jv wr => ∃ (x dd : Nat) (acc z : List Int) (q : Nat), Aside0 (x + dd = t ∧ acc.length + dd = k ∧ z = al ++ acc) ∧ x ≤ t ∧ jv = .int .i64 x ∧ q ≤ 8 * s.size ∧ Aside0 (XDecSt w B g w.heap.size b13 s 0 oI wr q uv (.slice A1_ n1_ c1_) (.slice A2_ n2_ c2_) z (ps ++ [(a : Int)]) (es ++ [(-1)])) ∧ Aside0 (valsR s (a : Int) (-1) dd acc 0 q = V)) (fun _ jv _ => t - (intOf jv).toNat)
          case atStart => exact ⟨f, k, [], al, q1, ⟨HFK.out, by simp, by simp⟩, by have := HFK.out; omega, rfl, hqa, HST9, HV⟩
          case round =>
            clear HST9 HV
            obtain ⟨x, dd, acc, z, q5, HL5, hx5, rfl, hq5, HST5, HV5⟩ := hrel
            by_cases hxt : x < t
            · obtain ⟨d2, hd2⟩ : ∃ d2, dd = d2 + 1 := ⟨dd - 1, by have := HL5.out.1; omega⟩
              subst hd2
              have j1 : (x : Int) < (t : Int) := by omega
              have HV6 : Aside0 ((if (oneR s (a : Int) (-1) q5).2.1 = 0 then valsR s (a : Int) (-1) d2 (acc ++ [(oneR s (a : Int) (-1) q5).1]) 0 (oneR s (a : Int) (-1) q5).2.2 = V else V.2.1 = (oneR s (a : Int) (-1) q5).2.1)) := ⟨by
                have := HV5.out
                unfold valsR at this
                rw [if_pos rfl] at this
                by_cases h0 : (oneR s (a : Int) (-1) q5).2.1 = 0
                · rw [if_pos h0]
                  rw [h0] at this
                  exact this
                · rw [if_neg h0, ← this, valsR_bad _ _ _ _ _ _ _ h0]⟩
              have hoat := oneR_at s (a : Int) (-1) q5 hq5
              have hzl : z.length ≤ 70000 := by
                have h1 := HL5.out.2.2
                have h2 := HL5.out.2.1
                have h3 := HAL.out.2
                rw [h1, List.length_append]
                omega
              clear HV5
              rw [show oneR s (a : Int) (-1) q5 = riceR s q5 (a : Int) from if_pos (by decide)] at HV6 hoat
              have hqa6 := Aside0.mk (HRICE.out wr q5 (a : Int)  hq5 HST5.out.rd)
              generalize riceR s q5 (a : Int) = gr at hqa6 HV6 hoat
              obtain ⟨yv, e6, q6⟩ := gr
              simp only at hqa6 HV6 hoat
              go_wp2_with fail
              with_reducible refine hqa6.out.mono ?_
              rintro e w14 ⟨rfl, hr14, ht14⟩
              have hst14 := HST5.out.turn hr14 ht14 hb7 (fun h => hg13 h.symm)
              have HST14 := Aside0.mk hst14
              clear hst14 hr14 ht14 hqa6 HST5
              cases he6 : e6 != 0 with
              | true =>
                have hn6' : e6 ≠ 0 := by simpa using he6
                have HXN : Aside0 (X = none) := ⟨by have h1 := HVX.out; have h2 := HV6.out; rw [if_neg hn6'] at h2; rw [h2, if_neg hn6'] at h1; exact h1.symm⟩
                clear hn6' HV6
                go_wp2_with ((with_reducible refine wpList_store_row ?_ 24 (.tmp 7) (.tmp 169) ?_ w.heap.size zRice ?_ ?_ 24 zRice HST14.out.z7 (rc_info _ _ _ _) ?_ (rc_one _ _ _ _ _ _ _ _) ?_); rfl; rfl; rfl; rfl; rfl)
                refine bodyPost_ret (results_tct rfl _ _ w.heap.size 24 zRice (0, 0) _ rfl (setRow_heap _ _ _ _ _ _ HST14.out.z7) Try.underlying24 rfl (rc_info _ _ _ _)) rfl ?_
                exact .inl ⟨HXN.out, rfl, ⟨q6, HST14.out.rd.setRow hb7, hoat⟩, HST14.out.tn.setRow (Nat.le_refl _) hBw⟩
              | false =>
                have hz6 : e6 = 0 := by simpa using he6
                subst hz6
                have HV7 : Aside0 (valsR s (a : Int) (-1) d2 (acc ++ [yv]) 0 q6 = V) := ⟨by have := HV6.out; rw [if_pos rfl] at this; exact this⟩
                clear HV6
                have hCw : w.heap.size ≤ w14.heap.size := HST14.out.tn.kept.1
                go_wp2_with (at_builtin; (with_reducible refine app_ints (w0 := w14) (B := w.heap.size) (v := u14) (xs := z) (.tmp 170) (.tmp 172) (yv) ?_ ?_ ?_ ?_ ?_ ?_ ?_ ?_ ?_); rfl; rfl; rfl; rfl; exact HST14.out.U; exact Below.refl _ _; exact hCw; omega; intro v1 w15 HI6 HB6 HG6 HO6)
                have hst15 := HST14.out.all hBw HI6.out HG6.out HO6.out
                have HST15 := Aside0.mk hst15
                clear hst15 HI6 HB6 HG6 HO6 HST14
                go_wp2
                go_roundw
                case rel => exact ⟨x + 1, d2, acc ++ [yv], z ++ [yv], q6, ⟨by have := HL5.out.1; omega, by rw [List.length_append, List.length_singleton]; have := HL5.out.2.1; omega, by rw [HL5.out.2.2, List.append_assoc]⟩, by omega, by go_num, hoat, HST15, HV7⟩
                case measure => simp [intOf]; omega
            · have hd0 : dd = 0 := by have := HL5.out.1; omega
              subst hd0
              have hX5 : decL s n Oq 4 d (i + 1) (al ++ acc) (ps ++ [(a : Int)]) (es ++ [(-1)]) q5 = X := by
                have h1 := HVX.out
                have h2 : (acc, (0 : Int), q5) = V := HV5.out
                rw [← h2] at h1
                exact h1
              have HX5 := Aside0.mk hX5
              have j1 : ¬ (x : Int) < (t : Int) := by omega
              clear hX5 HV5 HVX
              go_wp2
              go_roundw
              case rel => exact ⟨i + 1, _, _, z, ps ++ [(a : Int)], es ++ [(-1)], q5, by omega, by go_num, hq5, ⟨by rw [HL5.out.2.2, List.length_append]; have h2 := HL5.out.2.1; have h3 := HAL.out.1; omega, by rw [List.length_append, HLN2.out.1]; rfl, by rw [List.length_append, HLN2.out.2]; rfl⟩, HST5, ⟨by rw [HD.out, HL5.out.2.2]; exact HX5.out⟩⟩
              case measure => simp [intOf]; omega
    · obtain rfl : i = N := by omega
      have hXS : X = some (al, ps, es, q) := by have := HX.out; rw [Nat.sub_self] at this; exact this.symm
      have HXS := Aside0.mk hXS
      clear hXS HX
      obtain ⟨AP_, nP_, cP_, eP_⟩ := HST.out.P.shape
      subst eP_
      obtain ⟨AE_, nE_, cE_, eE_⟩ := HST.out.E.shape
      subst eE_
      have i2 : ¬ (i : Int) < (i : Int) := Int.lt_irrefl _
      have e1 := blk_cell HST.out.r13 1
      have hst := HST.out.below hB (below_drew (Below.refl wr.heap.size wr))
      clear HST
      obtain ⟨j9, j0, j1, j2, j3, j4, ju⟩ := HJ.out
      go_wp2
      clear j9 j0 j1 j2 j3 j4 ju e1
      refine start_ (n := 5) (S := fun w' => w'.cell? ⟨b13, 0, none⟩ = some (.int .i64 0) ∧ w'.cell? ⟨b13, 1, none⟩ = some (.int .i64 oI) ∧ w'.cell? ⟨b13, 2, none⟩ = some (.slice AP_ nP_ cP_) ∧ w'.cell? ⟨b13, 3, none⟩ = some (.slice AE_ nE_ cE_)) (ds := [3]) #[false, false, false, false, false] (by kernel_rfl) rfl rfl ⟨blk_cell hst.r13 0, blk_cell hst.r13 1, blk_cell hst.r13 2, blk_cell hst.r13 3⟩ (fun hHeld => ?_)
      refine pure_ (i := 0) (N := some 174) (v := ?_) (a' := ?_) #[true, false, false, false, false] rfl rfl (by kernel_rfl) (fun _ _ _ h => h) (Or.inl ⟨by rfl, ?_⟩) ?_ ?_
      rotate_left
      · intro w'
        go_simp
        with_reducible rfl
      rotate_left
      · simp only [Act.put, List.setIfInBounds_toArray, List.set_cons_zero, List.set_cons_succ, i64_w, i32_w]
        rfl
      refine pure_ (i := 2) (N := some 6) (v := ?_) (a' := ?_) #[true, false, true, false, false] rfl rfl (by kernel_rfl) (fun _ _ _ h => h) (Or.inl ⟨by rfl, ?_⟩) ?_ ?_
      rotate_left
      · intro w'
        go_simp
        with_reducible rfl
      rotate_left
      · simp only [Act.put, List.setIfInBounds_toArray, List.set_cons_zero, List.set_cons_succ, i64_w, i32_w]
        rfl
      refine take_ (i := 1) (N := some 175) (v := ?_) (a' := ?_) #[true, true, true, false, false] rfl rfl (by kernel_rfl) (fun _ _ _ h => h) (Or.inl ⟨by rfl, ?_⟩) hHeld ?_ ?_
      rotate_left
      · rintro w' ⟨s0, s1, s2, s3⟩
        go_simp
        with_reducible rfl
      rotate_left
      · simp only [Act.put, List.setIfInBounds_toArray, List.set_cons_zero, List.set_cons_succ, i64_w, i32_w]
        rfl
      refine last_ (i := 3) (N := none) #[true, true, true, true, false] rfl rfl (by kernel_rfl) (by decide) (fun K hK => ?_)
      refine store_row_step 24 (.tmp 7) (.tmp 175) ?_ ?_ w.heap.size #[.int .i64 0, .int .i64 oI, .slice AP_ nP_ cP_, .slice AE_ nE_ cE_] ?_ ?_ 24 zRice hst.z7 (rc_info _ _ _ _) ?_ (rc_one _ _ _ _ _ _ _ _) ?_
      · rfl
      · rfl
      · rfl
      · rfl
      · rfl
      refine hK.out _ _ ?_
      clear hK K
      refine pure_ (i := 4) (N := some 8) (v := ?_) (a' := ?_) #[true, true, true, true, true] rfl rfl (by kernel_rfl) (fun _ _ _ h => h) (Or.inl ⟨by rfl, ?_⟩) ?_ ?_
      rotate_left
      · intro w'
        go_simp
        with_reducible rfl
      rotate_left
      · simp only [Act.put, List.setIfInBounds_toArray, List.set_cons_zero, List.set_cons_succ, i64_w, i32_w]
        rfl
      refine done_ (by kernel_rfl) ?_
      go_wp2
      refine bodyPost_ret (results_tct rfl _ _ w.heap.size 24 #[.int .i64 0, .int .i64 oI, .slice AP_ nP_ cP_, .slice AE_ nE_ cE_] (0, 0) _ rfl (setRow_heap _ _ _ _ _ _ hst.z7) Try.underlying24 rfl (rc_info _ _ _ _)) rfl ?_
      exact .inr ⟨al, ps, es, q, _, _, _, HXS.out, rfl, hst.U.setRow hst.z7 (by decide), hst.P.setRow hst.z7 (by decide), hst.E.setRow hst.z7 (by decide), hst.rd.setRow hb7, hq, hst.tn.setRow (Nat.le_refl _) hBw⟩
end Go.Proofs.Ytfhekkoibmlmpaa.Hand
