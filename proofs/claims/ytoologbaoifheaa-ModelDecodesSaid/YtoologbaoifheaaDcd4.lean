/- Texts of this claim's proof, laid behind each other: Contracts of layer 19, proved by hand: counts begun; Contracts of layer 19, proved by hand: a class is seen; Plain words of layer 19: folds, lengths in bits; Plain words of layer 19: counts that fit, what an encoder does with a number; Contracts of layer 19, proved by hand: Encode; Plain words of layer 19: what a decoder gives; Contracts of layer 19, proved by hand: a number is taken; Contracts of layer 19, proved by hand: Decode -/
import Derived.Deep.MidRow
import Derived.OwnWalk
import Derived.Test.YtoologbaoifheaaDcd3
/- Contracts of layer 19, proved by hand: counts begun. -/
namespace Go.Proofs.Ytoologbaoifheaa.Hand
open Go.RowKit Go.Proofs.YtoologbaoifheaaW.PrintWords Go.Proofs.YtoologbaoifheaaW.PrintLast Go.Proofs.YtoologbaoifheaaW.PrintMore
set_option linter.unusedVariables false
set_option linter.unusedSimpArgs false

def ones : List Int := List.replicate 42 1
def onesTo (i : Nat) : List Int := List.replicate i 1 ++ List.replicate (42 - i) 0
theorem onesTo_set (i : Nat) (h : i < 42) : (onesTo i).set i 1 = onesTo (i + 1) := by
  unfold onesTo
  rw [List.set_append_right _ _ (by simp), List.length_replicate, Nat.sub_self]
  obtain ⟨m, hm⟩ : ∃ m, 42 - i = m + 1 := ⟨41 - i, by omega⟩
  rw [hm, List.replicate_succ, List.set_cons_zero, show 42 - (i + 1) = m by omega, List.replicate_succ', List.append_assoc]
  rfl
theorem begun_new (w : World) : CntAt (w.alloc (.cells (cntCells (onesTo 0) 42) 53)) w.heap.size (onesTo 0) 42 := ⟨blk_new w _, by decide⟩
set_option maxHeartbeats 4000000 in
set_option maxRecDepth 100000 in
theorem begun_any (w : World) :
    Calls Try.prog 19 #[] w fun e w' => e = .returned (.pointer (some ⟨w.heap.size, 0, none⟩)) ∧ CntAt w' w.heap.size ones 42 ∧ Below w.heap.size w w' := by
  have H0 := Aside0.mk (begun_new w)
  go_enter Try.func19, Try.ntmps19
  go_wp2
  change Code.wp _ _ _ _ (w.alloc (.cells (cntCells (onesTo 0) 42) 53))
  have HB0 : Aside0 (Below w.heap.size w (w.alloc (.cells (cntCells (onesTo 0) 42) 53))) := ⟨below_alloc (Below.refl _ _) _⟩
  generalize w.alloc (.cells (cntCells (onesTo 0) 42) 53) = w1 at H0 HB0 ⊢
  obtain ⟨g, hg⟩ : ∃ g, w.heap.size = g := ⟨_, rfl⟩
  have HG := Aside0.mk hg
  rw [hg] at H0 HB0 ⊢
  clear hg
  go_loopw [5] (fun iv wr => ∃ i : Nat, i ≤ 42 ∧ iv = .int .i64 i ∧ Aside0 (CntAt wr g (onesTo i) 42) ∧ Aside0 (Below g w wr)) (fun iv _ => 42 - (intOf iv).toNat)
  case atStart => exact ⟨0, by omega, rfl, H0, HB0⟩
  case round =>
    clear H0 HB0
    obtain ⟨i, hi, rfl, HC, HB⟩ := hrel
    by_cases hlt : i < 42
    · have i0 : (0 : Int) ≤ (i : Int) := by omega
      have i1 : (i : Int) < 42 := by omega
      have cI : wr.cell? ⟨g, i, none⟩ = some (.int .i64 ((onesTo i).getD i 0)) := HC.out.cell i hlt
      have fI := HC.out.frozen i
      have HC2 : Aside0 (CntAt (wr.setCell ⟨g, i, none⟩ (.int .i64 1)) g (onesTo (i + 1)) 42) := ⟨by rw [← onesTo_set i hlt]; exact HC.out.set i hlt 1⟩
      have HB2 : Aside0 (Below g w (wr.setCell ⟨g, i, none⟩ (.int .i64 1))) := ⟨HB.out.setCell (p := ⟨g, i, none⟩) (Nat.le_refl _) _⟩
      clear HC HB
      go_wp2
      go_roundw
      case rel => exact ⟨i + 1, by omega, by go_num, HC2, HB2⟩
      case measure => simp [intOf]; omega
    · have hi2 : i = 42 := by omega
      have n1 : ¬ (i : Int) < 42 := by omega
      rw [hi2] at HC
      clear hi2
      go_wp2
      go_ret
      exact ⟨by rw [HG.out]; rfl, by rw [HG.out]; exact HC.out, by rw [HG.out]; exact HB.out⟩
/-- A class was seen: halved, where the sum is great. -/
def halfTo (c : List Int) (i : Nat) : List Int := (c.take i).map (fun x => (x + 1) / 2) ++ c.drop i
def sawC (c : List Int) (s : Int) (x : Nat) : List Int × Int :=
  if s + 32 ≤ 32768 then (c.set x (c.getD x 0 + 32), s + 32) else ((c.set x (c.getD x 0 + 32)).map (fun x => (x + 1) / 2), belowC ((c.set x (c.getD x 0 + 32)).map (fun x => (x + 1) / 2)) 42)
theorem halfTo_length (c : List Int) (i : Nat) (h : c.length = 42) : (halfTo c i).length = 42 := by
  unfold halfTo
  rw [List.length_append, List.length_map, List.length_take, List.length_drop]
  omega
theorem halfTo_next (c : List Int) (i : Nat) (h : c.length = 42) (hi : i < 42) : (halfTo c i).set i ((c.getD i 0 + 1) / 2) = halfTo c (i + 1) := by
  unfold halfTo
  have hl : ((c.take i).map (fun x => (x + 1) / 2)).length = i := by rw [List.length_map, List.length_take]; omega
  rw [List.set_append_right _ _ (by omega), hl, Nat.sub_self, List.take_succ_eq_append_getElem (by omega), List.map_append, List.append_assoc]
  congr 1
  rw [List.drop_eq_getElem_cons (by omega : i < c.length), List.set_cons_zero, List.getD_eq_getElem?_getD, List.getElem?_eq_getElem (by omega)]
  rfl
theorem halfTo_low (c : List Int) (i j : Nat) (h : c.length = 42) (hi : i ≤ 42) (hj : j < i) : (halfTo c i).getD j 0 = (c.getD j 0 + 1) / 2 := by
  unfold halfTo
  have hl : ((c.take i).map (fun x => (x + 1) / 2)).length = i := by rw [List.length_map, List.length_take]; omega
  rw [List.getD_eq_getElem?_getD, List.getElem?_append_left (by omega), List.getElem?_map, List.getElem?_take, if_pos hj, List.getD_eq_getElem?_getD, List.getElem?_eq_getElem (by omega)]
  rfl
theorem belowC_congr (c d : List Int) : ∀ i, (∀ j, j < i → c.getD j 0 = d.getD j 0) → belowC c i = belowC d i
  | 0, _ => rfl
  | i + 1, h => by
    simp only [belowC]
    rw [belowC_congr c d i (fun j hj => h j (by omega)), h i (by omega)]
theorem halfTo_all (c : List Int) (h : c.length = 42) : halfTo c 42 = c.map (fun x => (x + 1) / 2) := by
  unfold halfTo
  rw [List.take_of_length_le (by omega), List.drop_of_length_le (by omega), List.append_nil]
theorem below_next (c : List Int) (i : Nat) (h : c.length = 42) (hi : i < 42) : belowC (halfTo c (i + 1)) (i + 1) = belowC (halfTo c i) i + (c.getD i 0 + 1) / 2 := by
  simp only [belowC]
  rw [halfTo_low c (i + 1) i h (by omega) (by omega), belowC_congr (halfTo c (i + 1)) (halfTo c i) i (fun j hj => by rw [halfTo_low c (i + 1) j h (by omega) (by omega), halfTo_low c i j h (by omega) hj])]
theorem Small.set {c : List Int} (h : Small c) (x : Nat) (y : Int) (h0 : 0 ≤ y) (h1 : y ≤ 65536) : Small (c.set x y) := by
  intro i
  rw [List.getD_eq_getElem?_getD]
  by_cases hx : x < c.length
  · by_cases e : x = i
    · subst e
      rw [List.getElem?_set_self hx]
      exact ⟨h0, h1⟩
    · rw [List.getElem?_set_ne e, ← List.getD_eq_getElem?_getD]
      exact h i
  · rw [List.set_eq_of_length_le (by omega), ← List.getD_eq_getElem?_getD]
    exact h i
end Go.Proofs.Ytoologbaoifheaa.Hand
/- Contracts of layer 19, proved by hand: a class is seen. -/
namespace Go.Proofs.Ytoologbaoifheaa.Hand
open Go.RowKit Go.Deep Go.Proofs.YtoologbaoifheaaW.PrintWords Go.Proofs.YtoologbaoifheaaW.PrintLast Go.Proofs.YtoologbaoifheaaW.PrintMore
set_option linter.unusedVariables false
set_option linter.unusedSimpArgs false

theorem info42 : (Try.prog.info? 51).map (·.size) = some 42 := by kernel_rfl
theorem CntAt.range {w : World} {g : Nat} {c : List Int} {s : Int} (h : CntAt w g c s) : w.rangeAt g 0 (c.map (Value.int .i64)) := by
  intro j v hv
  rw [List.getElem?_map] at hv
  have hj : j < c.length := by
    rcases Nat.lt_or_ge j c.length with h1 | h1
    · exact h1
    · rw [List.getElem?_eq_none h1] at hv
      cases hv
  rw [Nat.zero_add, h.cell j (by rw [← h.2]; exact hj)]
  rw [List.getElem?_eq_getElem hj] at hv
  rw [List.getD_eq_getElem?_getD, List.getElem?_eq_getElem hj]
  exact hv
theorem half_small {d : List Int} (hl : d.length = 42) (h : Small d) (i : Nat) (hi : i ≤ 42) : Small (halfTo d i) := by
  intro j
  have hj := h j
  by_cases h1 : j < i
  · rw [halfTo_low d i j hl hi h1]
    omega
  · have e : (halfTo d i).getD j 0 = d.getD j 0 := by
      unfold halfTo
      have hl2 : ((d.take i).map (fun x => (x + 1) / 2)).length = i := by rw [List.length_map, List.length_take]; omega
      rw [List.getD_eq_getElem?_getD, List.getElem?_append_right (by omega), hl2, List.getElem?_drop, show i + (j - i) = j by omega, List.getD_eq_getElem?_getD]
    rw [e]
    exact hj
theorem info64 : (Try.prog.info? 3).map (fun i => (i.zero, i.size, i.bytes)) = some (some (.int .i64 0), 1, 8) := by kernel_rfl
theorem index42 (d : List Int) (hl : d.length = 42) (i : Nat) (hi : i < 42) (w : World) : (Instr.index 51 (.agg (d.map (Value.int .i64)).toArray) (.int .i64 i)).run Try.prog w = .ok (.int .i64 (d.getD i 0)) w := by
  obtain ⟨i0, h0, hz0, hz1, hz2⟩ := info_parts info64
  have hu := Try.underlying51
  have he := Try.underlying3
  have e1 : (0 : Int) ≤ (i : Int) ∧ (i : Int) < ((42 : Nat) : Int) := by omega
  have hat : (d.map (Value.int .i64)).toArray[i]? = some (.int .i64 (d.getD i 0)) := by
    rw [List.getElem?_toArray, List.getElem?_map, List.getD_eq_getElem?_getD, List.getElem?_eq_getElem (by rw [hl]; exact hi)]
    rfl
  generalize (d.map (Value.int .i64)).toArray = cs at hat ⊢
  generalize d.getD i 0 = y at hat ⊢
  have hs : (sizeOf 3).run Try.prog w = .ok 1 w := by simp [sizeOf, typeInfo, h0, hz1, go_sem]
  have hg : (isAgg 3).run Try.prog w = .ok false w := by simp [isAgg, run_underlying he, go_sem]
  simp [Instr.index, run_underlying hu, asIntOf, hs, part, hg, hat, e1, hi, go_sem]
theorem CntAt.drew {w : World} {g : Nat} {c : List Int} {s : Int} (h : CntAt w g c s) : CntAt w.drew g c s := h
set_option maxHeartbeats 8000000 in
set_option maxRecDepth 100000 in
theorem saw_any (c : List Int) (s : Int) (hs : Small c) (x : Nat) (hx : x < 42) (hy2 : c.getD x 0 ≤ 65504) (s0 : 0 ≤ s) (s1 : s ≤ 65536) (B g : Nat) (hB : B ≤ g) (w : World) (h : CntAt w g c s) :
    Calls Try.prog 24 #[.pointer (some ⟨g, 0, none⟩), .int .i64 x] w fun e w' => e = .returned (.tuple #[]) ∧ CntAt w' g (sawC c s x).1 (sawC c s x).2 ∧ Turned B g w w' := by
  have x0 : (0 : Int) ≤ (x : Int) := by omega
  have x1 : (x : Int) < 42 := by omega
  have hxn : x ≠ 42 := by omega
  have cX : w.cell? ⟨g, x, none⟩ = some (.int .i64 (c.getD x 0)) := h.cell x hx
  have fX := h.frozen x
  have cS := h.total
  have fS := h.frozen 42
  have hcx := hs x
  have HSW : Aside0 (sawC c s x = if s + 32 ≤ 32768 then (c.set x (c.getD x 0 + 32), s + 32) else ((c.set x (c.getD x 0 + 32)).map (fun x => (x + 1) / 2), belowC ((c.set x (c.getD x 0 + 32)).map (fun x => (x + 1) / 2)) 42)) := ⟨rfl⟩
  have HS2 := Aside0.mk (hs.set x (c.getD x 0 + 32) (by omega) (by omega))
  obtain ⟨y, hy⟩ : ∃ y, c.getD x 0 = y := ⟨_, rfl⟩
  rw [hy] at cX hcx HSW HS2 hy2
  have e1 : IntKind.i64.wrap (y + 32) = y + 32 := by rw [IntKind.wrap_i64]; omega
  have e2 : IntKind.i64.wrap (s + 32) = s + 32 := by rw [IntKind.wrap_i64]; omega
  have HC1 := Aside0.mk (h.drew.set x hx (y + 32))
  have HT1 : Aside0 (Turned B g w (w.drew.setCell ⟨g, x, none⟩ (.int .i64 (y + 32)))) := ⟨((Turned.refl B g w).drewN 1).set hB x _⟩
  obtain ⟨d, hd⟩ : ∃ d, c.set x (y + 32) = d := ⟨_, rfl⟩
  rw [hd] at HC1 HSW HS2
  obtain ⟨r, hr⟩ : ∃ r, sawC c s x = r := ⟨_, rfl⟩
  rw [hr] at HSW ⊢
  clear h hs hd hcx hy hr hy2
  go_enter Try.func24, Try.ntmps24
  go_wp2
  go_still_tail 10, (by kernel_rfl)
  repeat still_step
  have cX2 : w.drew.cell? ⟨g, x, none⟩ = some (.int .i64 y) := cX
  have fX2 : w.drew.frozen? ⟨g, x, none⟩ = false := fX
  have cS2 : w.drew.cell? ⟨g, 42, none⟩ = some (.int .i64 s) := cS
  have fS2 : w.drew.frozen? ⟨g, 42, none⟩ = false := fS
  clear cX fX cS fS
  change wpList _ _ _ _ _ w.drew
  generalize w.drew = wz at HC1 HT1 cX2 fX2 cS2 fS2 ⊢
  by_cases hle : s + 32 ≤ 32768
  · have hr2 : r = (d, s + 32) := HSW.out.trans (if_pos hle)
    go_wp2
    refine bodyPost_ret (results_none rfl _ _ _) rfl ?_
    rw [hr2]
    exact ⟨rfl, HC1.out.setSum (s + 32), HT1.out.set hB 42 _⟩
  · have hr2 : r = (d.map (fun x => (x + 1) / 2), belowC (d.map (fun x => (x + 1) / 2)) 42) := HSW.out.trans (if_neg hle)
    have HR := Aside0.mk hr2
    clear hr2 HSW
    have hC3 := (HC1.out.setSum (s + 32)).setSum 0
    have HT3 := Aside0.mk ((HT1.out.set hB 42 (.int .i64 (s + 32))).set hB 42 (.int .i64 0))
    have hlen : d.length = 42 := HC1.out.2
    have HRG := Aside0.mk hC3.range
    have HIN : Aside0 ((Try.prog.info? 51).map (·.size) = some (d.map (Value.int .i64)).length) := ⟨by rw [List.length_map, hlen]; exact info42⟩
    have HC3 := Aside0.mk hC3
    have HLEN := Aside0.mk hlen
    clear hC3 hlen
    go_wp2_with (with_reducible refine wpList_load_mid rfl 51 (.tmp 33) rfl g 0 rfl (d.map (Value.int .i64)) _ HRG.out Try.underlying51 rfl HIN.out ?_)
    clear cX2 fX2 cS2 fS2 HC1 HT1 HRG HIN
    generalize ((wz.setCell ⟨g, x, none⟩ (.int .i64 (y + 32))).setCell ⟨g, 42, none⟩ (.int .i64 (s + 32))).setCell ⟨g, 42, none⟩ (.int .i64 0) = w3 at HC3 HT3 ⊢
    go_loopw [35] (fun iv wr => ∃ i : Nat, i ≤ 42 ∧ iv = .int .i64 i ∧ Aside0 (CntAt wr g (halfTo d i) (belowC (halfTo d i) i)) ∧ Aside0 (Turned B g w wr)) (fun iv _ => 42 - (intOf iv).toNat)
    case atStart => exact ⟨0, by omega, rfl, by simpa [halfTo, belowC] using HC3, HT3⟩
    case round =>
      clear HC3 HT3
      obtain ⟨i, hi, rfl, HC, HT⟩ := hrel
      by_cases hlt : i < 42
      · have i0 : (0 : Int) ≤ (i : Int) := by omega
        have i1 : (i : Int) < 42 := by omega
        have hin : i ≠ 42 := by omega
        have hix : ∀ W : World, (Instr.index 51 (.agg (d.map (Value.int .i64)).toArray) (.int .i64 i)).run Try.prog W = .ok (.int .i64 (d.getD i 0)) W := fun W => index42 d HLEN.out i hlt W
        have hz := HS2.out i
        have hset := halfTo_next d i HLEN.out hlt
        have hbn := below_next d i HLEN.out hlt
        have hbb : 0 ≤ belowC (halfTo d i) i ∧ belowC (halfTo d i) i ≤ 65536 * i := belowC_in _ (half_small HLEN.out HS2.out i (by omega)) i
        have cI : wr.cell? ⟨g, i, none⟩ = some (.int .i64 ((halfTo d i).getD i 0)) := HC.out.cell i hlt
        have fI := HC.out.frozen i
        have cT := HC.out.total
        have fT := HC.out.frozen 42
        obtain ⟨z, hzz⟩ : ∃ z, d.getD i 0 = z := ⟨_, rfl⟩
        rw [hzz] at hix hz hset hbn
        have HZK := Aside0.mk hzz
        clear hzz
        generalize (halfTo d i).getD i 0 = zo at cI
        obtain ⟨z2, hz2⟩ : ∃ z2, (z + 1) / 2 = z2 := ⟨_, rfl⟩
        rw [hz2] at hset hbn
        have HZ2K := Aside0.mk hz2
        have q1 : IntKind.i64.wrap (z + 1) = z + 1 := by rw [IntKind.wrap_i64]; omega
        have q2 : (z + 1).tdiv 2 = z2 := by rw [Int.tdiv_eq_ediv_of_nonneg (by omega)]; omega
        have q3 : IntKind.i64.wrap z2 = z2 := by rw [IntKind.wrap_i64]; omega
        have HC1 := Aside0.mk (HC.out.set i hlt z2)
        rw [hset] at HC1
        have HT1 := Aside0.mk (HT.out.set hB i (.int .i64 z2))
        obtain ⟨b, hb⟩ : ∃ b, belowC (halfTo d i) i = b := ⟨_, rfl⟩
        rw [hb] at cT hbn hbb HC1
        have q4 : IntKind.i64.wrap (b + z2) = b + z2 := by rw [IntKind.wrap_i64]; omega
        have HBN := Aside0.mk hbn
        clear hbn hbb hset hz hz2 hb HC HT
        go_wp2
        clear cI fI cT fT hix
        generalize wr.setCell ⟨g, i, none⟩ (.int .i64 z2) = w8 at HC1 HT1 ⊢
        have hgi : (halfTo d (i + 1)).getD i 0 = z2 := by rw [halfTo_low d (i + 1) i HLEN.out (by omega) (by omega), HZK.out, HZ2K.out]
        have cI : w8.cell? ⟨g, i, none⟩ = some (.int .i64 z2) := by rw [HC1.out.cell i hlt, hgi]
        have cT : w8.cell? ⟨g, 42, none⟩ = some (.int .i64 b) := HC1.out.total
        clear hgi
        go_still_tail 13, (by kernel_rfl)
        repeat still_step
        have HC2 : Aside0 (CntAt w8.drew g (halfTo d (i + 1)) b) := ⟨HC1.out.drew⟩
        have HT2 : Aside0 (Turned B g w w8.drew) := ⟨HT1.out.drewN 1⟩
        have cT2 : w8.drew.cell? ⟨g, 42, none⟩ = some (.int .i64 b) := HC2.out.total
        have fT2 : w8.drew.frozen? ⟨g, 42, none⟩ = false := HC2.out.frozen 42
        clear HC1 HT1 cI cT
        change wpList _ _ _ _ _ w8.drew
        generalize w8.drew = wz at HC2 HT2 cT2 fT2 ⊢
        go_wp2
        go_roundw
        case rel => exact ⟨i + 1, by omega, by go_num, ⟨by rw [HBN.out]; exact HC2.out.setSum (b + z2)⟩, ⟨HT2.out.set hB 42 _⟩⟩
        case measure => simp [intOf]; omega
      · have hi2 : i = 42 := by omega
        have n1 : ¬ (i : Int) < 42 := by omega
        rw [hi2, halfTo_all d HLEN.out] at HC
        clear hi2
        go_wp2
        refine bodyPost_end (results_none rfl _ _ _) rfl ?_
        rw [HR.out]
        exact ⟨rfl, HC.out, HT.out⟩
end Go.Proofs.Ytoologbaoifheaa.Hand
/- Plain words of layer 19: folds, lengths in bits. -/
namespace Go.Proofs.Ytoologbaoifheaa.Hand
open Go.RowKit Go.Proofs.Ytoologbaoifheaa.Q Go.Proofs.YtoologbaoifheaaW.PrintWords Go.Proofs.YtoologbaoifheaaW.PrintLast Go.Proofs.YtoologbaoifheaaW.PrintMore
set_option linter.unusedVariables false
set_option linter.unusedSimpArgs false

theorem xor0 (x : Int) (h0 : -9223372036854775808 ≤ x) (h1 : x ≤ 9223372036854775807) : Go.bits .xor .i64 x 0 = x := by
  show IntKind.i64.wrap ((BitVec.ofInt 64 x ^^^ BitVec.ofInt 64 0).toNat : Int) = x
  rw [show BitVec.ofInt 64 0 = 0#64 from rfl, BitVec.xor_zero, BitVec.toNat_ofInt, IntKind.wrap_i64]
  omega
theorem xorm (x : Int) (h0 : -9223372036854775808 ≤ x) (h1 : x ≤ 9223372036854775807) : Go.bits .xor .i64 x (-1) = -x - 1 := by
  show IntKind.i64.wrap ((BitVec.ofInt 64 x ^^^ BitVec.ofInt 64 (-1)).toNat : Int) = -x - 1
  rw [show BitVec.ofInt 64 (-1) = BitVec.allOnes 64 by decide, BitVec.xor_allOnes, BitVec.toNat_not, BitVec.toNat_ofInt, IntKind.wrap_i64]
  omega
theorem and1 (x : Int) : Go.bits .and .i64 x 1 = x % 2 := by
  show IntKind.i64.wrap ((BitVec.ofInt 64 x &&& BitVec.ofInt 64 1).toNat : Int) = x % 2
  rw [show BitVec.ofInt 64 1 = 1#64 from rfl, BitVec.toNat_and, BitVec.toNat_ofInt, show (1#64).toNat = 1 from rfl, Nat.and_one_is_mod, IntKind.wrap_i64]
  omega
/-- A number as one from 0 on (as far as 64 bits go), and back. -/
def foldM (n : Int) : Int := if 0 ≤ n then wrap64 (2 * n) else -wrap64 (2 * n) - 1
def unfoldM (n : Int) : Int := if n % 2 = 0 then (n % 18446744073709551616) / 2 else -((n % 18446744073709551616) / 2) - 1
theorem wrap64_in (x : Int) : -9223372036854775808 ≤ wrap64 x ∧ wrap64 x ≤ 9223372036854775807 := by unfold wrap64; omega
theorem foldM_eq (n : Int) (h0 : -9223372036854775808 ≤ n) (h1 : n ≤ 9223372036854775807) : model_Fold.f n = some (foldM n) := by
  unfold model_Fold.f foldM
  have hw := wrap64_in (n * 2)
  by_cases h : 0 ≤ n
  · rw [if_pos h, show n / 9223372036854775808 = 0 by omega, xor0 _ hw.1 hw.2, Int.mul_comm]
  · rw [if_neg h, show n / 9223372036854775808 = -1 by omega, xorm _ hw.1 hw.2, Int.mul_comm]
theorem unfoldM_eq (n : Int) (h0 : -9223372036854775808 ≤ n) (h1 : n ≤ 9223372036854775807) : model_Unfold.f n = some (unfoldM n) := by
  unfold model_Unfold.f unfoldM
  rw [and1, u64_wrap]
  have e1 : wrap64 (n % 18446744073709551616 / 2) = n % 18446744073709551616 / 2 := by unfold wrap64; omega
  rw [e1]
  rcases (by omega : n % 2 = 0 ∨ n % 2 = 1) with h | h
  · rw [h, if_pos rfl, show wrap64 (-0) = 0 by unfold wrap64; omega, xor0 _ (by omega) (by omega)]
  · rw [h, if_neg (by decide), show wrap64 (-1) = -1 by unfold wrap64; omega, xorm _ (by omega) (by omega)]
theorem rfoldM_eq (n : Int) (h0 : -9223372036854775808 ≤ n) (h1 : n ≤ 9223372036854775807) : lacquerref19_Fold.f n = some (foldM n) := by
  unfold lacquerref19_Fold.f foldM
  by_cases h : 0 ≤ n
  · rw [if_pos h, if_pos h, Int.mul_comm]
  · rw [if_neg h, if_neg h]
    congr 1
    unfold wrap64
    omega
theorem fold_back (n : Int) (h0 : -9223372036854775808 ≤ n) (h1 : n ≤ 9223372036854775807) : unfoldM (foldM n) = n ∧ foldM (unfoldM n) = n := by
  unfold foldM unfoldM wrap64
  constructor
  · split <;> split <;> omega
  · split <;> split <;> omega
def blenF : Nat → Nat → Nat
  | 0, _ => 0
  | k + 1, u => if u = 0 then 0 else blenF k (u / 2) + 1
/-- How many bits. -/
def blen (u : Nat) : Nat := blenF 64 u
theorem blenF_up : ∀ (k u : Nat), u < 2 ^ k → blenF (k + 1) u = blenF k u
  | 0, u, h => by
    have : u = 0 := by simpa using h
    subst this
    rfl
  | k + 1, u, h => by
    unfold blenF
    by_cases h0 : u = 0
    · rw [if_pos h0, if_pos h0]
    · rw [if_neg h0, if_neg h0]
      congr 1
      exact blenF_up k (u / 2) (by rw [Nat.pow_succ] at h; omega)
theorem blenF_ge (u k : Nat) (h : u < 2 ^ k) : ∀ j, blenF (k + j) u = blenF k u
  | 0 => rfl
  | j + 1 => by
    rw [← Nat.add_assoc, blenF_up (k + j) u (Nat.lt_of_lt_of_le h (Nat.pow_le_pow_right (by decide) (by omega))), blenF_ge u k h j]
theorem blenF_div : ∀ (m k u : Nat), 2 ^ m ≤ u → blenF (k + m) u = m + blenF k (u / 2 ^ m)
  | 0, k, u, _ => by simp
  | m + 1, k, u, h => by
    have h0 : u ≠ 0 := by
      have := Nat.pow_pos (n := m + 1) (by decide : 0 < 2)
      omega
    rw [← Nat.add_assoc]
    show (if u = 0 then 0 else blenF (k + m) (u / 2) + 1) = _
    rw [if_neg h0, blenF_div m k (u / 2) (by rw [Nat.pow_succ] at h; omega), Nat.div_div_eq_div_mul, show 2 * 2 ^ m = 2 ^ (m + 1) by rw [Nat.pow_succ, Nat.mul_comm]]
    omega
theorem blen_div (m u : Nat) (hm : m ≤ 56) (h : 2 ^ m ≤ u) (hu : u < 2 ^ 64) : blen u = m + blen (u / 2 ^ m) := by
  unfold blen
  have h1 := blenF_div m (64 - m) u h
  rw [show 64 - m + m = 64 by omega] at h1
  rw [h1]
  have h2 : u / 2 ^ m < 2 ^ (64 - m) := by
    rw [Nat.div_lt_iff_lt_mul (Nat.pow_pos (by decide)), ← Nat.pow_add, show 64 - m + m = 64 by omega]
    exact hu
  have h3 := blenF_ge (u / 2 ^ m) (64 - m) h2 m
  rw [show 64 - m + m = 64 by omega] at h3
  rw [h3]
theorem blen_le (u k : Nat) (h : u < 2 ^ k) : blen u ≤ k := by
  unfold blen
  suffices ∀ (f k u : Nat), u < 2 ^ k → blenF f u ≤ k from this 64 k u h
  intro f
  induction f with
  | zero => intro k u _; exact Nat.zero_le _
  | succ f ih =>
    intro k u h
    unfold blenF
    by_cases h0 : u = 0
    · rw [if_pos h0]; exact Nat.zero_le _
    · rw [if_neg h0]
      cases k with
      | zero => simp at h; omega
      | succ k =>
        have := ih k (u / 2) (by rw [Nat.pow_succ] at h; omega)
        omega
theorem len_form : ∃ T : ByteArray, (∀ v : Nat, v < 256 → bt T (v : Int) = (blen v : Int)) ∧ ∀ (k : Nat) (x0 x2 : Int), bits_Len64.j0 (k + 1) x0 x2 = if x0 ≥ 65536 then (if (x0 / 65536) ≥ 256 then (if 0 ≤ (((x0 / 65536) / 256) % 256) then (if (((x0 / 65536) / 256) % 256) < 256 then (some (wrap64 ((wrap64 ((wrap64 (x2 + 16)) + 8)) + (wrap64 (bt T (((x0 / 65536) / 256) % 256)))))) else (none)) else (none)) else (if 0 ≤ ((x0 / 65536) % 256) then (if ((x0 / 65536) % 256) < 256 then (some (wrap64 ((wrap64 (x2 + 16)) + (wrap64 (bt T ((x0 / 65536) % 256)))))) else (none)) else (none))) else (if x0 ≥ 256 then (if 0 ≤ ((x0 / 256) % 256) then (if ((x0 / 256) % 256) < 256 then (some (wrap64 ((wrap64 (x2 + 8)) + (wrap64 (bt T ((x0 / 256) % 256)))))) else (none)) else (none)) else (if 0 ≤ ((x0) % 256) then (if ((x0) % 256) < 256 then (some (wrap64 (x2 + (wrap64 (bt T ((x0) % 256)))))) else (none)) else (none))) := by
  refine ⟨_, ?_, fun k x0 x2 => bits_Len64.j0.eq_2 x0 x2 k⟩
  decide +kernel
theorem len_low (x : Nat) (hx : x < 4294967296) (b : Int) (b0 : 0 ≤ b) (b1 : b ≤ 32) (k : Nat) : bits_Len64.j0 (k + 1) (x : Int) b = some (b + (blen x : Int)) := by
  obtain ⟨T, hT, hj⟩ := len_form
  rw [hj]
  have hl : ∀ v : Nat, v < 256 → blen v ≤ 8 := fun v hv => blen_le v 8 hv
  by_cases h1 : (x : Int) ≥ 65536
  · rw [if_pos h1]
    by_cases h2 : (x : Int) / 65536 ≥ 256
    · have e : (x : Int) / 65536 / 256 % 256 = ((x / 2 ^ 24 : Nat) : Int) := by omega
      have hv : x / 2 ^ 24 < 256 := by omega
      have h3 := hl _ hv
      rw [if_pos h2, e, if_pos (by omega), if_pos (by omega), hT _ hv, blen_div 24 x (by decide) (by omega) (by omega)]
      generalize blen (x / 2 ^ 24) = q at h3 ⊢
      congr 1
      unfold wrap64
      omega
    · have e : (x : Int) / 65536 % 256 = ((x / 2 ^ 16 : Nat) : Int) := by omega
      have hv : x / 2 ^ 16 < 256 := by omega
      have h3 := hl _ hv
      rw [if_neg h2, e, if_pos (by omega), if_pos (by omega), hT _ hv, blen_div 16 x (by decide) (by omega) (by omega)]
      generalize blen (x / 2 ^ 16) = q at h3 ⊢
      congr 1
      unfold wrap64
      omega
  · rw [if_neg h1]
    by_cases h2 : (x : Int) ≥ 256
    · have e : (x : Int) / 256 % 256 = ((x / 2 ^ 8 : Nat) : Int) := by omega
      have hv : x / 2 ^ 8 < 256 := by omega
      have h3 := hl _ hv
      rw [if_pos h2, e, if_pos (by omega), if_pos (by omega), hT _ hv, blen_div 8 x (by decide) (by omega) (by omega)]
      generalize blen (x / 2 ^ 8) = q at h3 ⊢
      congr 1
      unfold wrap64
      omega
    · have e : (x : Int) % 256 = ((x : Nat) : Int) := by omega
      have hv : x < 256 := by omega
      have h3 := hl _ hv
      rw [if_neg h2, e, if_pos (by omega), if_pos (by omega), hT _ hv]
      generalize blen x = q at h3 ⊢
      congr 1
      unfold wrap64
      omega
theorem len_eq (u : Nat) (hu : u < 18446744073709551616) : bits_Len.f 1 (u : Int) = some (blen u : Int) := by
  unfold bits_Len.f bits_Len64.f
  by_cases h : (u : Int) ≥ 4294967296
  · have e : (u : Int) / 4294967296 = ((u / 2 ^ 32 : Nat) : Int) := by omega
    rw [if_pos h, e, len_low (u / 2 ^ 32) (by omega) 32 (by decide) (by decide) 0, blen_div 32 u (by decide) (by omega) (by omega)]
    simp
  · rw [if_neg h, len_low u (by omega) 0 (by decide) (by decide) 0]
    simp
theorem Fold_any (n : Int) (h0 : -9223372036854775808 ≤ n) (h1 : n ≤ 9223372036854775807) (w : World) : Calls Try.prog 8 #[.int .i64 n] w fun e w' => e = .returned (.int .i64 (foldM n)) ∧ Drawn0 w w' := model_Fold.calls n _ w (foldM_eq n h0 h1)
theorem Unfold_any (n : Int) (h0 : -9223372036854775808 ≤ n) (h1 : n ≤ 9223372036854775807) (w : World) : Calls Try.prog 10 #[.int .i64 n] w fun e w' => e = .returned (.int .i64 (unfoldM n)) ∧ Drawn0 w w' := model_Unfold.calls n _ w (unfoldM_eq n h0 h1)
theorem Len_any (u : Nat) (hu : u < 18446744073709551616) (w : World) : Calls Try.prog 20 #[.int .u64 u] w fun e w' => e = .returned (.int .i64 (blen u)) ∧ Drawn0 w w' := bits_Len.calls 1 u _ w (len_eq u hu)
end Go.Proofs.Ytoologbaoifheaa.Hand
/- Plain words of layer 19: counts that fit, what an encoder does with a number. -/
namespace Go.Proofs.Ytoologbaoifheaa.Math
open Go.RowKit Go.Proofs.Ytoologbaoifheaa.Hand Go.Proofs.YtoologbaoifheaaW.PrintWords Go.Proofs.YtoologbaoifheaaW.PrintLast Go.Proofs.YtoologbaoifheaaW.PrintMore
set_option linter.unusedVariables false
set_option linter.unusedSimpArgs false

structure CountsOk (c : List Int) (s : Int) : Prop where
  len : c.length = 42
  one : ∀ i, i < 42 → 1 ≤ c.getD i 0
  sum : belowC c 42 = s
  top : s ≤ 32768
theorem below_mono (c : List Int) (h : ∀ i, i < 42 → 1 ≤ c.getD i 0) : ∀ d i, i + d ≤ 42 → belowC c i + d ≤ belowC c (i + d)
  | 0, i, _ => by simp
  | d + 1, i, hd => by
    have h1 := below_mono c h d i (by omega)
    have h2 := h (i + d) (by omega)
    rw [← Nat.add_assoc]
    simp only [belowC]
    omega
theorem CountsOk.at {c : List Int} {s : Int} (h : CountsOk c s) (i : Nat) (hi : i < 42) : (i : Int) ≤ belowC c i ∧ 1 ≤ c.getD i 0 ∧ belowC c i + c.getD i 0 + (41 - i : Nat) ≤ s := by
  have h1 := below_mono c h.one i 0 (by omega)
  have h2 := below_mono c h.one (41 - i) (i + 1) (by omega)
  rw [Nat.zero_add] at h1
  rw [show i + 1 + (41 - i) = 42 by omega, h.sum] at h2
  simp only [belowC] at h1 h2
  have := h.one i hi
  exact ⟨by omega, this, by omega⟩
theorem CountsOk.small {c : List Int} {s : Int} (h : CountsOk c s) : Small c := by
  intro i
  by_cases hi : i < 42
  · have := h.at i hi
    have := h.top
    omega
  · rw [List.getD_eq_getElem?_getD, List.getElem?_eq_none (by rw [h.len]; omega)]
    decide
theorem CountsOk.part {c : List Int} {s : Int} (h : CountsOk c s) (k : Nat) (hk : k < 42) : mayP (belowC c k) (c.getD k 0) s := by
  have h1 := h.at k hk
  have h2 := h.top
  exact ⟨by omega, by omega, by omega, by omega, by omega, by omega⟩
theorem getD_set (c : List Int) (x i : Nat) (y : Int) (hx : x < c.length) : (c.set x y).getD i 0 = if x = i then y else c.getD i 0 := by
  rw [List.getD_eq_getElem?_getD]
  by_cases e : x = i
  · subst e
    rw [List.getElem?_set_self hx, if_pos rfl]
    rfl
  · rw [List.getElem?_set_ne e, if_neg e, List.getD_eq_getElem?_getD]
theorem below_set (c : List Int) (x : Nat) (y : Int) (hx : x < c.length) : ∀ i, belowC (c.set x y) i = belowC c i + (if x < i then y - c.getD x 0 else 0)
  | 0 => by simp [belowC]
  | i + 1 => by
    simp only [belowC]
    rw [below_set c x y hx i, getD_set c x i y hx]
    by_cases e : x = i
    · subst e
      rw [if_pos rfl, if_neg (by omega), if_pos (by omega)]
      omega
    · by_cases h2 : x < i
      · rw [if_neg e, if_pos h2, if_pos (by omega)]
        omega
      · rw [if_neg e, if_neg h2, if_neg (by omega)]
        omega
theorem getD_half (c : List Int) (i : Nat) : (c.map (fun x => (x + 1) / 2)).getD i 0 = (c.getD i 0 + 1) / 2 := by
  rw [List.getD_eq_getElem?_getD, List.getElem?_map, List.getD_eq_getElem?_getD]
  cases c[i]? with
  | none => decide
  | some y => rfl
theorem below_half (c : List Int) : ∀ i : Nat, 2 * belowC (c.map (fun x => (x + 1) / 2)) i ≤ belowC c i + i
  | 0 => by simp [belowC]
  | i + 1 => by
    have := below_half c i
    simp only [belowC]
    rw [getD_half]
    omega
theorem CountsOk.saw {c : List Int} {s : Int} (h : CountsOk c s) (x : Nat) (hx : x < 42) : CountsOk (sawC c s x).1 (sawC c s x).2 := by
  have hl : x < c.length := by rw [h.len]; exact hx
  have h0 := h.at x hx
  have hsum : belowC (c.set x (c.getD x 0 + 32)) 42 = s + 32 := by
    rw [below_set c x _ hl 42, if_pos hx, h.sum]
    omega
  have hone : ∀ i, i < 42 → 1 ≤ (c.set x (c.getD x 0 + 32)).getD i 0 := by
    intro i hi
    rw [getD_set c x i _ hl]
    split
    · omega
    · exact h.one i hi
  unfold sawC
  by_cases hle : s + 32 ≤ 32768
  · rw [if_pos hle]
    exact ⟨by rw [List.length_set]; exact h.len, hone, hsum, hle⟩
  · rw [if_neg hle]
    refine ⟨by rw [List.length_map, List.length_set]; exact h.len, fun i hi => ?_, rfl, ?_⟩
    · have h1 := hone i hi
      show 1 ≤ ((c.set x (c.getD x 0 + 32)).map (fun x => (x + 1) / 2)).getD i 0
      rw [getD_half]
      omega
    · have h1 := below_half (c.set x (c.getD x 0 + 32)) 42
      rw [hsum] at h1
      have := h.top
      show belowC ((c.set x (c.getD x 0 + 32)).map (fun x => (x + 1) / 2)) 42 ≤ 32768
      omega
theorem begun_ok : CountsOk ones 42 := ⟨by decide, by decide, by decide, by decide⟩
/-- The lower bits in pieces of 16 at the most, the odd piece first. -/
def lowE (u : Nat) : Nat → Nat → Enc → Enc
  | 0, _, E => E
  | f + 1, left, E => if left = 0 then E else lowE u f (left - ((left - 1) % 16 + 1)) (putE ((u / 2 ^ (left - ((left - 1) % 16 + 1)) % 2 ^ ((left - 1) % 16 + 1) : Nat) : Int) 1 (2 ^ ((left - 1) % 16 + 1)) E)
/-- What is known while numbers are encoded. -/
structure St where
  e : Enc
  c : List Int
  s : Int
def numU (n : Int) : Nat := (foldM n).toNat
def stepS (t : St) (n : Int) : St :=
  ⟨lowE (numU n) 42 (blen (numU n) - 1) (putE (belowC t.c (blen (numU n))) (t.c.getD (blen (numU n)) 0) t.s t.e), (sawC t.c t.s (blen (numU n))).1, (sawC t.c t.s (blen (numU n))).2⟩
def runS (l : List Int) : St := l.foldl stepS ⟨newE, ones, 42⟩
theorem runS_snoc (l : List Int) (n : Int) : runS (l ++ [n]) = stepS (runS l) n := by simp [runS]
def inB (n : Int) : Prop := -1099511627776 ≤ n ∧ n < 1099511627776
instance (n : Int) : Decidable (inB n) := by unfold inB; infer_instance
theorem numU_lt (n : Int) (h : inB n) : numU n < 2 ^ 41 ∧ (foldM n) = (numU n : Int) := by
  unfold numU foldM wrap64 inB at *
  split <;> omega
theorem class_lt (n : Int) (h : inB n) : blen (numU n) < 42 := by
  have := blen_le _ 41 (numU_lt n h).1
  omega
/-- An encoder that fits, with counts that fit; so many bytes at the most. -/
structure StOk (t : St) (m : Nat) : Prop where
  fit : Fits t.e
  wid : 16777216 ≤ t.e.width
  cnt : CountsOk t.c t.s
  size : sizeE t.e ≤ m
theorem low_piece (u left : Nat) (hl : 0 < left) : bitsP ((u / 2 ^ (left - ((left - 1) % 16 + 1)) % 2 ^ ((left - 1) % 16 + 1) : Nat) : Int) (((left - 1) % 16 + 1 : Nat) : Int) := by
  refine ⟨by omega, by omega, by omega, ?_⟩
  rw [Int.toNat_natCast]
  have := Nat.mod_lt (u / 2 ^ (left - ((left - 1) % 16 + 1))) (Nat.pow_pos (n := (left - 1) % 16 + 1) (by decide : 0 < 2))
  exact_mod_cast this
theorem put_ok {E : Enc} {m : Nat} (f n t : Int) (h : Fits E) (hw : 16777216 ≤ E.width) (hs : sizeE E ≤ m) (hm : mayP f n t) : Fits (putE f n t E) ∧ 16777216 ≤ (putE f n t E).width ∧ sizeE (putE f n t E) ≤ m + 3 := by
  obtain ⟨h1, h2, _⟩ := put_fits f n t E h hw hm
  have := putE_size f n t E h.good.count
  exact ⟨h1, h2, by omega⟩
theorem low_ok (u : Nat) : ∀ (f left : Nat) (E : Enc) (m : Nat), Fits E → 16777216 ≤ E.width → sizeE E ≤ m → Fits (lowE u f left E) ∧ 16777216 ≤ (lowE u f left E).width ∧ sizeE (lowE u f left E) ≤ m + 3 * f
  | 0, left, E, m, h, hw, hs => ⟨h, hw, by simpa [lowE] using hs⟩
  | f + 1, left, E, m, h, hw, hs => by
    unfold lowE
    by_cases h0 : left = 0
    · rw [if_pos h0]
      exact ⟨h, hw, by omega⟩
    · rw [if_neg h0]
      have hb := bits_may _ _ (low_piece u left (by omega))
      rw [Int.toNat_natCast] at hb
      obtain ⟨h1, h2, h3⟩ := put_ok _ 1 (2 ^ ((left - 1) % 16 + 1)) h hw hs hb
      obtain ⟨h4, h5, h6⟩ := low_ok u f (left - ((left - 1) % 16 + 1)) _ (m + 3) h1 h2 h3
      exact ⟨h4, h5, by omega⟩
theorem step_ok {t : St} {m : Nat} (h : StOk t m) (n : Int) (hn : inB n) : StOk (stepS t n) (m + 129) := by
  have hk := class_lt n hn
  obtain ⟨h1, h2, h3⟩ := put_ok _ _ _ h.fit h.wid h.size (h.cnt.part _ hk)
  obtain ⟨h4, h5, h6⟩ := low_ok (numU n) 42 (blen (numU n) - 1) _ (m + 3) h1 h2 h3
  exact ⟨h4, h5, h.cnt.saw _ hk, by unfold stepS; omega⟩
theorem start_ok : StOk ⟨newE, ones, 42⟩ 1 := ⟨new_fits, by decide, begun_ok, by decide⟩
theorem run_ok (l : List Int) (h : ∀ n ∈ l, inB n) : StOk (runS l) (1 + 129 * l.length) := by
  suffices ∀ (l : List Int) (t : St) (m : Nat), StOk t m → (∀ n ∈ l, inB n) → StOk (l.foldl stepS t) (m + 129 * l.length) from this l _ 1 start_ok h
  intro l
  induction l with
  | nil => intro t m ht _; simpa using ht
  | cons x l ih =>
    intro t m ht hl
    have h1 := ih (stepS t x) (m + 129) (step_ok ht x (hl x (by simp))) (fun n hn => hl n (by simp [hn]))
    rw [List.length_cons, show m + 129 * (l.length + 1) = m + 129 + 129 * l.length by omega]
    exact h1
end Go.Proofs.Ytoologbaoifheaa.Math
/- Contracts of layer 19, proved by hand: Encode. -/
namespace Go.Proofs.Ytoologbaoifheaa.Hand
open Go.RowKit Go.Proofs.Ytoologbaoifheaa.Q Go.Proofs.Ytoologbaoifheaa.Math Go.Proofs.YtoologbaoifheaaW.PrintWords Go.Proofs.YtoologbaoifheaaW.PrintLast Go.Proofs.YtoologbaoifheaaW.PrintMore
set_option linter.unusedVariables false
set_option linter.unusedSimpArgs false

theorem CntAt.moved {w w' : World} {B g gc : Nat} {v v' : Value} {E : Enc} {c : List Int} {s : Int} (hc : CntAt w gc c s) (he : EncAt w B g v E) (hm : Moved B g w v w' v') : CntAt w' gc c s := by
  refine ⟨blk_kept hc.1 hm.kept (fun h => ?_), hc.2⟩
  rcases h with e | e
  · have h1 := he.1
    rw [← e, hc.1] at h1
    injection h1 with h1
    injection h1 with h1 h2
    exact absurd h2 (by decide)
  · exact (Kd.R_ne he.2.1.all hc.1 (by decide)) e.symm
theorem EncAt.turned {w w' : World} {B B2 g gc : Nat} {v : Value} {E : Enc} {c : List Int} {s : Int} (he : EncAt w B g v E) (hc : CntAt w gc c s) (hm : Turned B2 gc w w') : EncAt w' B g v E := by
  refine ⟨blk_kept he.1 hm.kept (fun e => ?_), Kd.R_kept he.2.1 hm.kept (fun k hk e => ?_), he.2.2⟩
  · have h1 := he.1
    rw [e, hc.1] at h1
    injection h1 with h1
    injection h1 with h1 h2
    exact absurd h2 (by decide)
  · subst e
    exact (Kd.R_ne he.2.1.all hc.1 (by decide)) hk.symm
theorem mask_i64 (x k : Nat) (hx : x < 2 ^ 41) (hk : k ≤ 16) : Go.bits .and .i64 (x : Int) (IntKind.i64.wrap (IntKind.i64.wrap (2 ^ k) - 1)) = ((x % 2 ^ k : Nat) : Int) := by
  have hp0 : (0 : Int) < 2 ^ k := Int.pow_pos (by decide)
  have hp : (2 : Int) ^ k ≤ 65536 := by
    have h := Nat.pow_le_pow_right (n := 2) (by decide) hk
    have h2 : (2 : Nat) ^ 16 = 65536 := by decide
    have h3 : ((2 ^ k : Nat) : Int) ≤ 65536 := by omega
    simpa using h3
  rw [and_mask_i64 k (by omega) (x : Int) _ (by omega) (by omega) (by
    generalize (2 : Int) ^ k = P at hp0 hp
    rw [IntKind.wrap_i64, IntKind.wrap_i64]
    omega)]
  simp
/-- What Encode gives. -/
def encF (l : List Int) : ByteArray × Int := if ∀ n ∈ l, inB n then (finishS (runS l).e, 0) else (⟨#[]⟩, 1)
set_option maxHeartbeats 8000000 in
set_option maxRecDepth 100000 in
theorem Encode_any (l : List Int) (A : Option Addr) (c : Nat) (w : World) (hr : ReadsInt w .i64 A l.length l) (hl : l.length ≤ 1000000) (hin : ∀ n ∈ l, -9223372036854775808 ≤ n ∧ n ≤ 9223372036854775807) :
    Calls Try.prog 13 #[.slice A l.length c] w fun e w' => e = .returned (.tuple #[.string (encF l).1, .int .i64 (encF l).2]) ∧ Below w.heap.size w w' := by
  have hup := Try.underlying42
  have HR := Aside0.mk hr
  have HI := Aside0.mk hin
  have HF : Aside0 (encF l = if ∀ n ∈ l, inB n then (finishS (runS l).e, 0) else (⟨#[]⟩, 1)) := ⟨rfl⟩
  clear hr hin
  go_enter Try.func13, Try.ntmps13
  go_wp2
  go_loopw [18] (fun iv wr => ∃ i : Nat, i ≤ l.length ∧ iv = .int .i64 i ∧ Aside0 (∀ n ∈ l.take i, inB n) ∧ wr = w) (fun iv _ => l.length - (intOf iv).toNat)
  case atStart => exact ⟨0, by omega, rfl, ⟨fun n hn => by simp at hn⟩, rfl⟩
  case round =>
    obtain ⟨i, hi, rfl, HB, hww⟩ := hrel
    have hw2 := hww.symm
    clear hww
    subst hw2
    by_cases hlt : i < l.length
    · have i0 : (0 : Int) ≤ (i : Int) := by omega
      have i1 : (i : Int) < (l.length : Int) := by omega
      obtain ⟨ad, rfl, hx⟩ := HR.out.at_ (i : Int) (by omega) i1
      rw [Int.toNat_natCast] at hx
      have ht : l.take (i + 1) = l.take i ++ [rd l (i : Int)] := by
        rw [List.take_succ_eq_append_getElem hlt]
        simp [rd, hlt]
      have hm : rd l (i : Int) ∈ l := by simp [rd, hlt]
      have hxi := HI.out _ hm
      have HMEM := Aside0.mk hm
      generalize rd l (i : Int) = x at hx ht hxi HMEM
      clear hm
      by_cases hb : inB x
      · have HB2 : Aside0 (∀ n ∈ l.take (i + 1), inB n) := ⟨fun n hn => by
          rw [ht] at hn
          rcases List.mem_append.1 hn with hn | hn
          · exact HB.out n hn
          · rw [List.mem_singleton.1 hn]; exact hb⟩
        have hq : (x / 1099511627776 != x / 9223372036854775808) = false := by
          have : x / 1099511627776 = x / 9223372036854775808 := by unfold inB at hb; omega
          simp [this]
        clear ht hb
        go_wp2
        go_roundw
        case rel => exact ⟨i + 1, by omega, by go_num, HB2, by trivial⟩
        case measure => simp [intOf]; omega
      · have hq : (x / 1099511627776 != x / 9223372036854775808) = true := by
          have : x / 1099511627776 ≠ x / 9223372036854775808 := by unfold inB at hb; omega
          simpa using this
        have HRES : Aside0 (encF l = (⟨#[]⟩, 1)) := ⟨by rw [HF.out, if_neg (fun q => hb (q x HMEM.out))]⟩
        clear ht hb
        go_wp2
        go_ret2
        rw [HRES.out]
        exact ⟨rfl, Below.refl _ _⟩
    · obtain rfl : i = l.length := by omega
      rw [List.take_length] at HB
      have HRES : Aside0 (encF l = (finishS (runS l).e, 0)) := ⟨by rw [HF.out, if_pos HB.out]⟩
      clear HF
      go_wp2_with fail
      refine (New_any _).mono ?_
      rintro e w1 ⟨rfl, rfl⟩
      have HE1 := Aside0.mk (new_at w w.heap.size (Nat.le_refl _))
      have HB1 : Aside0 (Below w.heap.size w (w.alloc (.cells (encCells newE (.slice none 0 0)) 82))) := ⟨below_alloc (Below.refl _ _) _⟩
      generalize w.alloc (.cells (encCells newE (.slice none 0 0)) 82) = w1 at HE1 HB1 ⊢
      go_wp2_with fail
      refine (begun_any _).mono ?_
      rintro e w2 ⟨rfl, hC, hB⟩
      have HC2 := Aside0.mk hC
      have HE2 := Aside0.mk (HE1.out.below hB)
      have HB2 := Aside0.mk (HB1.out.trans (hB.mono HB1.out.size))
      have hgb : w.heap.size ≤ w1.heap.size := HB1.out.size
      clear hC hB HE1 HB1
      obtain ⟨b, hbb⟩ : ∃ b, w.heap.size = b := ⟨_, rfl⟩
      have HBB := Aside0.mk hbb
      rw [hbb] at HE2 HB2 hgb ⊢
      clear hbb
      generalize w1.heap.size = gc at HC2 hgb ⊢
      go_wp2
      go_loopw [32] (fun iv wq => ∃ (i : Nat) (v : Value), i ≤ l.length ∧ iv = .int .i64 i ∧ Aside0 (EncAt wq b b v (runS (l.take i)).e) ∧ Aside0 (CntAt wq gc (runS (l.take i)).c (runS (l.take i)).s) ∧ Aside0 (Below b w wq)) (fun iv _ => l.length - (intOf iv).toNat)
      case atStart => exact ⟨0, _, by omega, rfl, HE2, HC2, HB2⟩
      case round =>
        clear HE2 HC2 HB2 hlt hi
        obtain ⟨i, v, hi, rfl, HE, HC, HBW⟩ := hrel
        by_cases hlt : i < l.length
        · have i0 : (0 : Int) ≤ (i : Int) := by omega
          have i1 : (i : Int) < (l.length : Int) := by omega
          obtain ⟨ad, rfl, hx⟩ := (HR.out.below (by rw [HBB.out]; exact HBW.out)).at_ (i : Int) (by omega) i1
          rw [Int.toNat_natCast] at hx
          have ht : l.take (i + 1) = l.take i ++ [rd l (i : Int)] := by
            rw [List.take_succ_eq_append_getElem hlt]
            simp [rd, hlt]
          have hm : rd l (i : Int) ∈ l := by simp [rd, hlt]
          have hxi := HI.out _ hm
          have hxb := HB.out _ hm
          have hok := run_ok (l.take i) (fun n hn => HB.out n (List.mem_of_mem_take hn))
          have hlen : (l.take i).length = i := by rw [List.length_take]; omega
          rw [hlen] at hok
          have hnx := runS_snoc (l.take i) (rd l (i : Int))
          rw [← ht] at hnx
          generalize rd l (i : Int) = x at hx hxi hxb hnx
          generalize runS (l.take i) = t at HE HC hok hnx
          have hk := class_lt x hxb
          obtain ⟨hu1, hu2⟩ := numU_lt x hxb
          have hst : stepS t x = ⟨lowE (numU x) 42 (blen (numU x) - 1) (putE (belowC t.c (blen (numU x))) (t.c.getD (blen (numU x)) 0) t.s t.e), (sawC t.c t.s (blen (numU x))).1, (sawC t.c t.s (blen (numU x))).2⟩ := rfl
          rw [hst] at hnx
          have HFO := Aside0.mk (fun W => Fold_any x hxi.1 hxi.2 W)
          rw [hu2] at HFO
          generalize numU x = u at hk hu1 hnx HFO
          have HLE := Aside0.mk (fun W => Len_any u (by omega) W)
          obtain ⟨k, hkk⟩ : ∃ k, blen u = k := ⟨_, rfl⟩
          rw [hkk] at hk hnx HLE
          have HNX := Aside0.mk hnx
          have HOK := Aside0.mk hok
          have huw : IntKind.u64.wrap (u : Int) = (u : Int) := by rw [u64_wrap]; omega
          have HU1 := Aside0.mk hu1
          clear ht hm hlen hnx hok hst hkk hxi hxb hu1 hu2
          go_wp2_with fail
          refine (HFO.out _).mono ?_
          rintro e w3 ⟨rfl, hd3⟩
          go_wp2_with fail
          refine (HLE.out _).mono ?_
          rintro e w4 ⟨rfl, hd4⟩
          have HE4 := Aside0.mk ((HE.out.below hd3.below).below hd4.below)
          have HC4 := Aside0.mk ((HC.out.below hd3.below).below hd4.below)
          have HB4 : Aside0 (Below b w w4) := ⟨(HBW.out.trans (hd3.below.mono (by have := HE.out.lt; omega))).trans (hd4.below.mono (by have := (HE.out.below hd3.below).lt; omega))⟩
          clear hd3 hd4 hx HE HC HBW HFO HLE
          go_wp2_with fail
          refine (span_any t.c t.s HOK.out.cnt.small k hk gc w4 HC4.out).mono ?_
          rintro e w5 ⟨rfl, hd⟩
          have HE5 := Aside0.mk (HE4.out.below hd.below)
          have HC5 := Aside0.mk (HC4.out.below hd.below)
          have HB5 : Aside0 (Below b w w5) := ⟨HB4.out.trans (hd.below.mono (by have := HE4.out.lt; omega))⟩
          clear hd HE4 HC4 HB4
          have cT : w5.cell? ⟨gc, 42, none⟩ = some (.int .i64 t.s) := HC5.out.total
          have HPM := Aside0.mk (HOK.out.cnt.part k hk)
          have HPO := Aside0.mk (put_ok _ _ _ HOK.out.fit HOK.out.wid HOK.out.size HPM.out)
          have HPC := Aside0.mk (Put_yes (belowC t.c k) (t.c.getD k 0) t.s t.e b b v w5 HE5.out HOK.out.fit.good HOK.out.wid HPM.out (by have := HOK.out.size; omega))
          obtain ⟨f0, hf0⟩ : ∃ f0, belowC t.c k = f0 := ⟨_, rfl⟩
          obtain ⟨n0, hn0⟩ : ∃ n0, t.c.getD k 0 = n0 := ⟨_, rfl⟩
          rw [hf0, hn0] at HPO HPC HNX ⊢
          clear hf0 hn0
          go_wp2_with fail
          refine HPC.out.mono ?_
          rintro e w6 ⟨rfl, v6, hE, hM⟩
          have HE6 := Aside0.mk hE
          have HC6 := Aside0.mk (HC5.out.moved HE5.out hM)
          have HB6 := Aside0.mk (HB5.out.trans hM.below)
          clear hE hM cT HE5 HC5 HB5 HPC HPM
          generalize putE f0 n0 t.s t.e = E0 at HE6 HPO HNX
          obtain ⟨q1, q2, q3⟩ := HPO.out
          have HLOW := Aside0.mk (low_ok u 42 (k - 1) E0 _ q1 q2 q3)
          have HQ := Aside0.mk (And.intro q1 (And.intro q2 q3))
          clear q1 q2 q3 HPO
          obtain ⟨E9, hE9⟩ : ∃ E9, lowE u 42 (k - 1) E0 = E9 := ⟨_, rfl⟩
          rw [hE9] at HNX HLOW
          have HE9 := Aside0.mk hE9
          clear hE9
          have k0 : (0 : Int) ≤ (k : Int) := by omega
          have k1 : (k : Int) < 42 := by omega
          have ekl : IntKind.i64.wrap ((k : Int) - 1) = (k : Int) - 1 := by rw [IntKind.wrap_i64]; omega
          have HKK := Aside0.mk hk
          go_wp2
          go_loopg [14] 42 (fun f lv wr => ∃ (z : Int) (E : Enc) (v' : Value), lv = .int .i64 z ∧ -1 ≤ z ∧ z ≤ 41 ∧ z.toNat ≤ f ∧ Aside0 (lowE u f z.toNat E = E9) ∧ Aside0 (EncAt wr b b v' E) ∧ Aside0 (CntAt wr gc t.c t.s) ∧ Aside0 (Below b w wr) ∧ Aside0 (Fits E ∧ 16777216 ≤ E.width ∧ sizeE E + 3 * f ≤ 1 + 129 * i + 3 + 3 * 42))
          case atStart =>
            exact ⟨(k : Int) - 1, E0, v6, rfl, by omega, by omega, by omega, ⟨by rw [show ((k : Int) - 1).toNat = k - 1 by omega]; exact HE9.out⟩, HE6, HC6, HB6, ⟨HQ.out.1, HQ.out.2.1, by have := HQ.out.2.2; omega⟩⟩
          case round =>
            clear HE6 HC6 HB6 HQ HE9
            obtain ⟨z, E, v', rfl, z0, z1, hzf, HL, HE, HC, HBW, HQ⟩ := hrel
            by_cases hz : z > 0
            · cases gk with
              | zero => exact absurd hzf (by omega)
              | succ f =>
                obtain ⟨left, rfl⟩ : ∃ left : Nat, z = (left : Int) := ⟨z.toNat, by omega⟩
                rw [Int.toNat_natCast] at HL hzf
                have hl0 : 0 < left := by omega
                have hll : lowE u (f + 1) left E = lowE u f (left - ((left - 1) % 16 + 1)) (putE ((u / 2 ^ (left - ((left - 1) % 16 + 1)) % 2 ^ ((left - 1) % 16 + 1) : Nat) : Int) 1 (2 ^ ((left - 1) % 16 + 1)) E) := by
                  show (if left = 0 then E else _) = _
                  rw [if_neg (by omega)]
                have hbp := low_piece u left hl0
                obtain ⟨V, hV⟩ : ∃ V, (left - 1) % 16 = V := ⟨_, rfl⟩
                obtain ⟨W, hW⟩ : ∃ W, V + 1 = W := ⟨_, rfl⟩
                obtain ⟨R, hR⟩ : ∃ R, left - W = R := ⟨_, rfl⟩
                rw [hV, hW, hR] at hll hbp
                have w1 : 1 ≤ W ∧ W ≤ 16 := by omega
                obtain ⟨w1, w2⟩ := w1
                have e1 : IntKind.i64.wrap ((left : Int) - 1) = (left : Int) - 1 := by rw [IntKind.wrap_i64]; omega
                have e2 : ((left : Int) - 1).tmod 16 = (V : Int) := by rw [Int.tmod_eq_emod_of_nonneg (by omega)]; omega
                have e3 : IntKind.i64.wrap ((V : Int) + 1) = (W : Int) := by rw [IntKind.wrap_i64]; omega
                have e4 : IntKind.i64.wrap ((left : Int) - (W : Int)) = (R : Int) := by rw [IntKind.wrap_i64]; omega
                have r0 : (0 : Int) ≤ (R : Int) := by omega
                have r1 : (R : Int) < 64 := by omega
                have v0 : (0 : Int) ≤ (W : Int) := by omega
                have v1 : (W : Int) < 64 := by omega
                have hud : u / 2 ^ R < 2 ^ 41 := Nat.lt_of_le_of_lt (Nat.div_le_self _ _) HU1.out
                have hmk := mask_i64 (u / 2 ^ R) W hud w2
                rw [show ((u / 2 ^ R : Nat) : Int) = (u : Int) / 2 ^ R by simp] at hmk
                obtain ⟨N, hN⟩ : ∃ N, u / 2 ^ R % 2 ^ W = N := ⟨_, rfl⟩
                rw [hN] at hmk hbp hll
                have HLL := Aside0.mk (hll.symm.trans HL.out)
                have HBC := Aside0.mk (fun X (hX : EncAt X b b v' E) => Bits_yes (N : Int) (W : Int) E b b v' X hX HQ.out.1.good HQ.out.2.1 hbp (by have := HQ.out.2.2; omega))
                rw [Int.toNat_natCast] at HBC
                have hbm := bits_may _ _ hbp
                rw [Int.toNat_natCast] at hbm
                have HPO := Aside0.mk (put_ok (N : Int) 1 (2 ^ W) HQ.out.1 HQ.out.2.1 (Nat.le_refl _) hbm)
                have HRW := Aside0.mk hR
                have HMK := Aside0.mk hmk
                have ewr : ∀ x : Int, IntKind.i64.wrap x = wrap64 x := fun x => by rw [IntKind.wrap_i64]; unfold wrap64; omega
                rw [ewr, ewr] at hmk
                have HMK2 := Aside0.mk hmk
                clear ewr
                clear hll hbp hmk hbm hud hN hV hW hR HL
                go_wp2
                go_still_tail 9, (by kernel_rfl)
                repeat still_step
                have HEd : Aside0 (EncAt wr.drew b b v' E) := ⟨HE.out.below (below_drew (Below.refl _ _))⟩
                have HCd : Aside0 (CntAt wr.drew gc t.c t.s) := ⟨HC.out.drew⟩
                have HBd : Aside0 (Below b w wr.drew) := ⟨below_drew HBW.out⟩
                clear HE HC HBW
                change wpList _ _ _ _ _ wr.drew
                generalize wr.drew = wz at HEd HCd HBd ⊢
                go_wp2_with fail
                (try rw [HMK.out]); (try rw [HMK2.out])
                with_reducible refine (HBC.out _ HEd.out).mono ?_
                rintro e w7 ⟨rfl, v7, hE, hM⟩
                have HE7 := Aside0.mk hE
                have HC7 := Aside0.mk (HCd.out.moved HEd.out hM)
                have HB7 := Aside0.mk (HBd.out.trans hM.below)
                clear hE hM HBC HMK HMK2
                go_wp2
                go_roundg f
                case measure => omega
                case rel => exact ⟨(R : Int), _, v7, rfl, by omega, by have := HRW.out; omega, by have := HRW.out; omega, ⟨by rw [Int.toNat_natCast]; exact HLL.out⟩, HE7, HC7, HB7, ⟨HPO.out.1, HPO.out.2.1, by have := HPO.out.2.2; have := HQ.out.2.2; omega⟩⟩
            · have hzn : z.toNat = 0 := by omega
              have he : E = E9 := by
                have := HL.out
                rw [hzn] at this
                rw [← this]
                cases gk <;> simp [lowE]
              subst he
              clear hzn HL
              have HSW := Aside0.mk (saw_any t.c t.s HOK.out.cnt.small k HKK.out (by have h1 := HOK.out.cnt.at k HKK.out; have h2 := HOK.out.cnt.top; omega) (by have h1 := HOK.out.cnt.at k HKK.out; omega) (by have h2 := HOK.out.cnt.top; omega) b gc hgb wr HC.out)
              go_wp2_with fail
              refine HSW.out.mono ?_
              rintro e w8 ⟨rfl, hC, hT⟩
              have HC8 := Aside0.mk hC
              have HE8 := Aside0.mk (HE.out.turned HC.out hT)
              have HB8 := Aside0.mk (HBW.out.trans hT.below)
              clear hC hT HE HC HBW HSW
              go_wp2
              go_roundw
              case rel => exact ⟨i + 1, v', by omega, by go_num, by rw [HNX.out]; exact HE8, by rw [HNX.out]; exact HC8, HB8⟩
              case measure => simp [intOf]; omega
        · obtain rfl : i = l.length := by omega
          have hok := run_ok (l.take l.length) (fun n hn => HB.out n (List.mem_of_mem_take hn))
          rw [List.take_length] at HE hok
          have HFI := Aside0.mk (fun W v (h : EncAt W b b v (runS l).e) => Finish_any (runS l).e b b v W h hok.fit.good (by have := hok.size; omega))
          clear hok
          go_wp2_with fail
          refine (HFI.out _ _ HE.out).mono ?_
          rintro e w9 ⟨rfl, v9, hE, hM⟩
          have HB9 := Aside0.mk (HBW.out.trans hM.below)
          clear hE hM
          go_wp2
          go_ret2
          rw [HRES.out]
          exact ⟨rfl, by rw [HBB.out]; exact HB9.out⟩
end Go.Proofs.Ytoologbaoifheaa.Hand
/- Plain words of layer 19: what a decoder gives. -/
namespace Go.Proofs.Ytoologbaoifheaa.Hand
open Go.RowKit Go.Proofs.Ytoologbaoifheaa.Q Go.Proofs.Ytoologbaoifheaa.Math Go.Proofs.YtoologbaoifheaaW.PrintWords Go.Proofs.YtoologbaoifheaaW.PrintLast Go.Proofs.YtoologbaoifheaaW.PrintMore
set_option linter.unusedVariables false
set_option linter.unusedSimpArgs false

theorem DecAt.seen {w w' : World} {B2 g gc : Nat} {d : Dec} {c : List Int} {s : Int} (hd : DecAt w g d) (hc : CntAt w gc c s) (hm : Turned B2 gc w w') : DecAt w' g d := by
  refine blk_kept hd hm.kept (fun e => ?_)
  have h1 : w.heap[g]? = _ := hd
  rw [e, hc.1] at h1
  injection h1 with h1
  injection h1 with h1 h2
  exact absurd h2 (by decide)
theorem CntAt.taken {w w' : World} {B2 g gc : Nat} {d : Dec} {c : List Int} {s : Int} (hc : CntAt w gc c s) (hd : DecAt w g d) (hm : Turned B2 g w w') : CntAt w' gc c s := by
  refine ⟨blk_kept hc.1 hm.kept (fun e => ?_), hc.2⟩
  have h1 : w.heap[g]? = _ := hd
  rw [← e, hc.1] at h1
  injection h1 with h1
  injection h1 with h1 h2
  exact absurd h2 (by decide)
theorem or_i64 (x n W : Nat) (hx : x < 2 ^ 41) (hW : W ≤ 16) (hn : n < 2 ^ W) : Go.bits .or .i64 ((x : Int) * 2 ^ W) (n : Int) = ((x * 2 ^ W + n : Nat) : Int) := by
  have hp : 2 ^ W ≤ 65536 := by
    have h := Nat.pow_le_pow_right (n := 2) (by decide) hW
    exact h
  have hp0 : 0 < 2 ^ W := Nat.pow_pos (by decide)
  have hx2 : x * 2 ^ W ≤ x * 65536 := Nat.mul_le_mul_left _ hp
  have e0 : (x : Int) * 2 ^ W = ((x * 2 ^ W : Nat) : Int) := by simp
  have e : Go.bits .or .i64 ((x * 2 ^ W : Nat) : Int) (n : Int) = IntKind.i64.wrap ((BitVec.ofInt 64 ((x * 2 ^ W : Nat) : Int) ||| BitVec.ofInt 64 (n : Int)).toNat : Int) := rfl
  have e1 : (BitVec.ofInt 64 ((x * 2 ^ W : Nat) : Int)).toNat = 2 ^ W * x := by rw [BitVec.toNat_ofInt, Nat.mul_comm (2 ^ W) x]; omega
  have e2 : (BitVec.ofInt 64 (n : Int)).toNat = n := by rw [BitVec.toNat_ofInt]; omega
  rw [e0, e, BitVec.toNat_or, e1, e2, ← Nat.two_pow_add_eq_or_of_lt hn, Nat.mul_comm (2 ^ W) x, IntKind.wrap_i64]
  omega
theorem peek_in (d : Dec) (t : Int) (h : GoodD d) (h1 : 1 ≤ t) : 0 ≤ (peekD d t).1 ∧ (peekD d t).1 ≤ t - 1 := by
  unfold peekD
  split
  · exact ⟨by decide, by simp; omega⟩
  · split
    · exact ⟨by decide, by simp; omega⟩
    · rename_i h2 h3
      have hw := h.wid0 (by simpa using h3)
      have hq : 0 ≤ d.code / (d.width / t) := Int.ediv_nonneg h.code0 (Int.ediv_nonneg (by omega) (by omega))
      show 0 ≤ (if d.code / (d.width / t) ≤ t - 1 then d.code / (d.width / t) else t - 1) ∧ (if d.code / (d.width / t) ≤ t - 1 then d.code / (d.width / t) else t - 1) ≤ t - 1
      split <;> omega
/-- The lower bits, taken in pieces. -/
def lowD : Nat → Nat → Nat → Dec → Option (Nat × Dec)
  | 0, _, u, d => some (u, d)
  | f + 1, left, u, d => if left = 0 then some (u, d) else
    if (bitsD ((left - 1) % 16 + 1 : Nat) d).2.1 = 0 then lowD f (left - ((left - 1) % 16 + 1)) (u * 2 ^ ((left - 1) % 16 + 1) + (bitsD ((left - 1) % 16 + 1 : Nat) d).1.toNat) (bitsD ((left - 1) % 16 + 1 : Nat) d).2.2 else none
/-- What is known while numbers are decoded. -/
structure Rt where
  d : Dec
  c : List Int
  s : Int
def classD (r : Rt) : Nat := findC r.c 42 0 (peekD r.d r.s).1
/-- A number taken. -/
def numD (r : Rt) : Option (Int × Rt) :=
  if (peekD r.d r.s).2 = 0 then
    if (takeD (belowC r.c (classD r)) (r.c.getD (classD r) 0) r.s r.d).1 = 0 then
      (lowD 42 (classD r - 1) (if classD r = 0 then 0 else 1) (takeD (belowC r.c (classD r)) (r.c.getD (classD r) 0) r.s r.d).2).map fun x => (unfoldM (x.1 : Int), ⟨x.2, (sawC r.c r.s (classD r)).1, (sawC r.c r.s (classD r)).2⟩)
    else none
  else none
def decs : Nat → Rt → List Int → Option (List Int × Rt)
  | 0, r, out => some (out, r)
  | k + 1, r, out => match numD r with
    | none => none
    | some (x, r') => decs k r' (out ++ [x])
/-- What Decode gives. -/
def decF (s : ByteArray) (n : Int) : List Int × Int × Int :=
  if n < 0 ∨ 16777216 < n then ([], 0, 1) else if (ofD s).bad = true then ([], 0, 2) else
    match decs n.toNat ⟨ofD s, ones, 42⟩ [] with
    | none => ([], 0, 2)
    | some (out, r) => (out, r.d.pos, 0)
end Go.Proofs.Ytoologbaoifheaa.Hand
/- Contracts of layer 19, proved by hand: a number is taken. -/
namespace Go.Proofs.Ytoologbaoifheaa.Hand
open Go.RowKit Go.Proofs.Ytoologbaoifheaa.Q Go.Proofs.Ytoologbaoifheaa.Math Go.Proofs.YtoologbaoifheaaW.PrintWords Go.Proofs.YtoologbaoifheaaW.PrintLast Go.Proofs.YtoologbaoifheaaW.PrintMore
set_option linter.unusedVariables false
set_option linter.unusedSimpArgs false
attribute [local go_sem] max2_int min2_int max_two min_two

theorem findC_lt (c : List Int) : ∀ (k x : Nat) (a : Int), x ≤ 41 → findC c k x a ≤ 41
  | 0, x, _, h => h
  | k + 1, x, a, h => by
    unfold findC
    split
    · rename_i h2
      exact findC_lt c k (x + 1) _ (by omega)
    · exact h
theorem bits_in (k : Nat) (d : Dec) (h : GoodD d) : 0 ≤ (bitsD (k : Int) d).1 ∧ (bitsD (k : Int) d).1 < 2 ^ k := by
  have hp : (1 : Int) ≤ 2 ^ k := by
    have : (0 : Int) < 2 ^ k := Int.pow_pos (by decide)
    omega
  unfold bitsD
  rw [Int.toNat_natCast]
  have h1 := peek_in d (2 ^ k) h hp
  split
  · exact ⟨by simp, by simp; omega⟩
  · split
    · exact ⟨by simp, by simp; omega⟩
    · split
      · exact ⟨h1.1, by have := h1.2; show (peekD d (2 ^ k)).1 < 2 ^ k; omega⟩
      · exact ⟨by simp, by simp; omega⟩
theorem normD_s : ∀ (k : Nat) (d : Dec), (normD k d).2.s = d.s
  | 0, d => rfl
  | k + 1, d => by
    unfold normD
    split
    · split
      · rfl
      · rw [normD_s k]; rfl
    · rfl
theorem takeD_s (f n t : Int) (d : Dec) : (takeD f n t d).2.s = d.s := by
  unfold takeD
  split
  · split
    · rfl
    · split
      · rfl
      · rw [normD_s]; rfl
  · rfl
theorem bitsD_s (k : Int) (d : Dec) : (bitsD k d).2.2.s = d.s := by
  unfold bitsD
  split
  · rfl
  · split
    · rfl
    · split
      · exact takeD_s _ _ _ _
      · exact takeD_s _ _ _ _
/-- Two blocks may have been turned, no other. -/
def Two (B g gc : Nat) (w w' : World) : Prop := Below B w w' ∧ Kept w w' (fun k => k = g ∨ k = gc)
theorem Two.refl (B g gc : Nat) (w : World) : Two B g gc w w := ⟨Below.refl _ _, Kept.refl _ _⟩
theorem Two.drawn {B g gc : Nat} {w w1 w2 : World} (h : Two B g gc w w1) (d : Drawn0 w1 w2) : Two B g gc w w2 := by
  obtain ⟨m, rfl⟩ := d
  exact ⟨pw_below_drewN h.1 m, h.2.drewN m⟩
theorem Two.dec {B g gc : Nat} {w w1 w2 : World} (h : Two B g gc w w1) (k : Turned B g w1 w2) : Two B g gc w w2 := ⟨h.1.trans k.below, h.2.then_ k.kept (fun _ h => .inl (.inl h))⟩
theorem Two.cnt {B g gc : Nat} {w w1 w2 : World} (h : Two B g gc w w1) (k : Turned B gc w1 w2) : Two B g gc w w2 := ⟨h.1.trans k.below, h.2.then_ k.kept (fun _ h => .inl (.inr h))⟩
set_option maxHeartbeats 8000000 in
set_option maxRecDepth 100000 in
theorem number_any (r : Rt) (hg : GoodD r.d) (hc : CountsOk r.c r.s) (hsz : r.d.s.size ≤ 9223372036854775807) (B g gc : Nat) (hB : B ≤ g) (hB2 : B ≤ gc) (w : World) (hd : DecAt w g r.d) (hk : CntAt w gc r.c r.s) (hBw : B ≤ w.heap.size) :
    Calls Try.prog 37 #[.pointer (some ⟨g, 0, none⟩), .pointer (some ⟨gc, 0, none⟩)] w fun e w' => Two B g gc w w' ∧ ((numD r = none ∧ e = .returned (.tuple #[.int .i64 0, .bool false])) ∨ (∃ x r', numD r = some (x, r') ∧ e = .returned (.tuple #[.int .i64 x, .bool true]) ∧ DecAt w' g r'.d ∧ CntAt w' gc r'.c r'.s)) := by
  have HG := Aside0.mk hg
  have HC := Aside0.mk hc
  have HD := Aside0.mk hd
  have HK := Aside0.mk hk
  have HNU : Aside0 (numD r = if (peekD r.d r.s).2 = 0 then
    if (takeD (belowC r.c (classD r)) (r.c.getD (classD r) 0) r.s r.d).1 = 0 then
      (lowD 42 (classD r - 1) (if classD r = 0 then 0 else 1) (takeD (belowC r.c (classD r)) (r.c.getD (classD r) 0) r.s r.d).2).map fun x => (unfoldM (x.1 : Int), ⟨x.2, (sawC r.c r.s (classD r)).1, (sawC r.c r.s (classD r)).2⟩)
    else none
  else none) := ⟨rfl⟩
  have cT : w.cell? ⟨gc, 42, none⟩ = some (.int .i64 r.s) := hk.total
  have hs := hc.at 0 (by decide)
  have htop := hc.top
  have hpk := peek_in r.d r.s hg (by omega)
  have hcl : classD r < 42 := by
    have := findC_lt r.c 42 0 (peekD r.d r.s).1 (by decide)
    unfold classD
    omega
  have HCL : Aside0 (classD r = findC r.c 42 0 (peekD r.d r.s).1) := ⟨rfl⟩
  clear hg hc hd hk hs
  go_enter Try.func37, Try.ntmps37
  go_wp2_with fail
  with_reducible refine (Peek_any r.d r.s g w HD.out HG.out).mono ?_
  rintro e w1 ⟨rfl, hd1⟩
  have HD1 := Aside0.mk (HD.out.below hd1.below)
  have HK1 := Aside0.mk (HK.out.below hd1.below)
  have HB1 : Aside0 (Two B g gc w w1) := ⟨(Two.refl B g gc w).drawn hd1⟩
  clear hd1 HD HK cT
  by_cases hp0 : (peekD r.d r.s).2 = 0
  · have hpb : ((peekD r.d r.s).2 != 0) = false := by simp [hp0]
    have HN2 := Aside0.mk (HNU.out.trans (if_pos hp0))
    clear HNU hp0
    have HFD := Aside0.mk (find_any r.c r.s HC.out.small (peekD r.d r.s).1 hpk.1 (by omega) gc w1 HK1.out)
    rw [← HCL.out] at HFD
    generalize classD r = k at hcl HCL HN2 HFD
    generalize (peekD r.d r.s).2 = pe at hpb ⊢
    generalize (peekD r.d r.s).1 = pv at hpk HCL HFD ⊢
    go_wp2_with fail
    with_reducible refine HFD.out.mono ?_
    rintro e w2 ⟨rfl, rfl⟩
    have HSP := Aside0.mk (span_any r.c r.s HC.out.small k hcl gc w1 HK1.out)
    obtain ⟨f0, hf0⟩ : ∃ f0, belowC r.c k = f0 := ⟨_, rfl⟩
    obtain ⟨n0, hn0⟩ : ∃ n0, r.c.getD k 0 = n0 := ⟨_, rfl⟩
    have HN0 := Aside0.mk hn0
    rw [hf0, hn0] at HSP HN2
    clear hf0 hn0
    go_wp2_with fail
    with_reducible refine HSP.out.mono ?_
    rintro e w3 ⟨rfl, hd3⟩
    have HD3 := Aside0.mk (HD1.out.below hd3.below)
    have HK3 := Aside0.mk (HK1.out.below hd3.below)
    have HB3 : Aside0 (Two B g gc w w3) := ⟨HB1.out.drawn hd3⟩
    have cT : w3.cell? ⟨gc, 42, none⟩ = some (.int .i64 r.s) := HK3.out.total
    clear hd3 HD1 HK1 HB1 HFD HSP
    go_wp2_with fail
    with_reducible refine (Take_any r.d f0 n0 r.s HG.out hsz B g hB w3 HD3.out).mono ?_
    rintro e w4 ⟨rfl, hd4, ht4⟩
    have HD4 := Aside0.mk hd4
    have HK4 := Aside0.mk (HK3.out.taken HD3.out ht4)
    have HB4 := Aside0.mk (HB3.out.dec ht4)
    have HG4 := Aside0.mk (takeD_good r.d f0 n0 r.s HG.out)
    clear hd4 ht4 HD3 HK3 HB3 cT
    by_cases ht0 : (takeD f0 n0 r.s r.d).1 = 0
    · have htb : ((takeD f0 n0 r.s r.d).1 != 0) = false := by simp [ht0]
      have HN3 := Aside0.mk (HN2.out.trans (if_pos ht0))
      clear HN2 ht0
      generalize (takeD f0 n0 r.s r.d).1 = te at htb ⊢
      have HSZ : Aside0 ((takeD f0 n0 r.s r.d).2.s.size ≤ 9223372036854775807) := ⟨by rw [takeD_s]; exact hsz⟩
      generalize (takeD f0 n0 r.s r.d).2 = d0 at HD4 HG4 HN3 HSZ
      obtain ⟨u0, hu0⟩ : ∃ u0 : Nat, (if k = 0 then 0 else 1) = u0 := ⟨_, rfl⟩
      have hmin : (if (1 : Int) < (k : Int) then 1 else (k : Int)) = (u0 : Int) := by rw [← hu0]; split <;> split <;> omega
      rw [hu0] at HN3
      obtain ⟨X, hX⟩ : ∃ X, lowD 42 (k - 1) u0 d0 = X := ⟨_, rfl⟩
      rw [hX] at HN3
      have HX := Aside0.mk hX
      have HU0 := Aside0.mk hu0
      have k0 : (0 : Int) ≤ (k : Int) := by omega
      have ekl : IntKind.i64.wrap ((k : Int) - 1) = (k : Int) - 1 := by rw [IntKind.wrap_i64]; omega
      clear hX hu0
      go_wp2
      go_loopg [11, 12] 42 (fun f uv lv wr => ∃ (z : Int) (u : Nat) (d : Dec), uv = .int .i64 u ∧ lv = .int .i64 z ∧ -1 ≤ z ∧ z < k ∧ z ≤ 41 ∧ z.toNat ≤ f ∧ u < 2 ^ (k - z.toNat) ∧ Aside0 (DecAt wr g d) ∧ Aside0 (GoodD d) ∧ Aside0 (d.s.size ≤ 9223372036854775807) ∧ Aside0 (CntAt wr gc r.c r.s) ∧ Aside0 (Two B g gc w wr) ∧ Aside0 (lowD f z.toNat u d = X))
      case atStart =>
        refine ⟨(k : Int) - 1, u0, d0, rfl, rfl, by omega, by omega, by omega, by omega, ?_, HD4, HG4, HSZ, HK4, HB4, ⟨by rw [show ((k : Int) - 1).toNat = k - 1 by omega]; exact HX.out⟩⟩
        have := HU0.out
        rcases Nat.eq_zero_or_pos k with h | h
        · subst h
          rw [if_pos rfl] at this
          subst this
          decide
        · rw [if_neg (by omega)] at this
          rw [show k - ((k : Int) - 1).toNat = 1 by omega, ← this]
          decide
      case round =>
        clear HD4 HG4 HK4 HB4 HX HSZ
        obtain ⟨z, u, d, rfl, rfl, z0, zk, z1, hzf, hub, HD, HGD, HSZ, HKD, HBW, HL⟩ := hrel
        by_cases hz : z > 0
        · cases gk with
          | zero => exact absurd hzf (by omega)
          | succ f =>
            obtain ⟨left, rfl⟩ : ∃ left : Nat, z = (left : Int) := ⟨z.toNat, by omega⟩
            rw [Int.toNat_natCast] at HL hzf hub
            have hl0 : 0 < left := by omega
            have hll : lowD (f + 1) left u d = if (bitsD ((left - 1) % 16 + 1 : Nat) d).2.1 = 0 then lowD f (left - ((left - 1) % 16 + 1)) (u * 2 ^ ((left - 1) % 16 + 1) + (bitsD ((left - 1) % 16 + 1 : Nat) d).1.toNat) (bitsD ((left - 1) % 16 + 1 : Nat) d).2.2 else none := by
              show (if left = 0 then some (u, d) else _) = _
              rw [if_neg (by omega)]
            obtain ⟨V, hV⟩ : ∃ V, (left - 1) % 16 = V := ⟨_, rfl⟩
            obtain ⟨W, hW⟩ : ∃ W, V + 1 = W := ⟨_, rfl⟩
            obtain ⟨R, hR⟩ : ∃ R, left - W = R := ⟨_, rfl⟩
            rw [hV, hW, hR] at hll
            have w1 : 1 ≤ W ∧ W ≤ 16 := by omega
            obtain ⟨w1, w2⟩ := w1
            have e1 : IntKind.i64.wrap ((left : Int) - 1) = (left : Int) - 1 := by rw [IntKind.wrap_i64]; omega
            have e2 : ((left : Int) - 1).tmod 16 = (V : Int) := by rw [Int.tmod_eq_emod_of_nonneg (by omega)]; omega
            have e3 : IntKind.i64.wrap ((V : Int) + 1) = (W : Int) := by rw [IntKind.wrap_i64]; omega
            have e4 : IntKind.i64.wrap ((left : Int) - (W : Int)) = (R : Int) := by rw [IntKind.wrap_i64]; omega
            have HBC := Aside0.mk (BitsD_any d (W : Int) HGD.out HSZ.out B g hB wr HD.out)
            have HG2 := Aside0.mk (bitsD_good (W : Int) d HGD.out)
            have hbi := bits_in W d HGD.out
            have HLL := Aside0.mk (hll.symm.trans HL.out)
            clear hll HL
            go_wp2_with fail
            with_reducible refine HBC.out.mono ?_
            rintro e w5 ⟨rfl, hd5, ht5⟩
            have HD5 := Aside0.mk hd5
            have HK5 := Aside0.mk (HKD.out.taken HD.out ht5)
            have HB5 := Aside0.mk (HBW.out.dec ht5)
            clear hd5 ht5 HD HKD HBW HBC
            have HSZ5 : Aside0 ((bitsD (W : Int) d).2.2.s.size ≤ 9223372036854775807) := ⟨by rw [bitsD_s]; exact HSZ.out⟩
            by_cases he : (bitsD (W : Int) d).2.1 = 0
            · have heb : ((bitsD (W : Int) d).2.1 != 0) = false := by simp [he]
              have HL2 := Aside0.mk ((if_pos he).symm.trans HLL.out)
              clear HLL he
              obtain ⟨nn, hnn⟩ : ∃ nn : Nat, (bitsD (W : Int) d).1 = (nn : Int) := ⟨(bitsD (W : Int) d).1.toNat, by omega⟩
              rw [hnn] at hbi HL2 ⊢
              rw [Int.toNat_natCast] at HL2
              generalize (bitsD (W : Int) d).2.1 = be at heb ⊢
              generalize (bitsD (W : Int) d).2.2 = d5 at HD5 HG2 HSZ5 HL2
              have hn2 : nn < 2 ^ W := by exact_mod_cast hbi.2
              have hpk2 : 2 ^ (k - left) ≤ 2 ^ 41 := Nat.pow_le_pow_right (by decide) (by omega)
              have eor := or_i64 u nn W (by omega) w2 hn2
              have hpW : 2 ^ W ≤ 2 ^ 16 := Nat.pow_le_pow_right (by decide) w2
              have hmul : u * 2 ^ W ≤ u * 2 ^ 16 := Nat.mul_le_mul_left _ hpW
              have esh : IntKind.i64.wrap ((u : Int) * 2 ^ W) = (u : Int) * 2 ^ W := by
                have e0 : (u : Int) * 2 ^ W = ((u * 2 ^ W : Nat) : Int) := by simp
                rw [e0, IntKind.wrap_i64]
                omega
              have esh2 : wrap64 ((u : Int) * 2 ^ W) = (u : Int) * 2 ^ W := by
                have e0 : (u : Int) * 2 ^ W = ((u * 2 ^ W : Nat) : Int) := by simp
                rw [e0]
                unfold wrap64
                omega
              have v0 : (0 : Int) ≤ (W : Int) := by omega
              have v1 : (W : Int) < 64 := by omega
              have HUB : Aside0 (u * 2 ^ W + nn < 2 ^ (k - R)) := ⟨by
                have e : 2 ^ (k - R) = 2 ^ (k - left) * 2 ^ W := by rw [← Nat.pow_add]; congr 1; omega
                rw [e]
                have : (u + 1) * 2 ^ W ≤ 2 ^ (k - left) * 2 ^ W := Nat.mul_le_mul_right _ hub
                rw [Nat.add_mul] at this
                omega⟩
              have HRW := Aside0.mk hR
              clear hnn hbi hn2 hpk2 hpW hmul hub hV hW hR
              obtain ⟨un, hun⟩ : ∃ un, u * 2 ^ W + nn = un := ⟨_, rfl⟩
              rw [hun] at eor HUB HL2
              clear hun
              go_wp2
              go_roundg f
              case measure => omega
              case rel => exact ⟨(R : Int), un, d5, rfl, rfl, by omega, by have := HRW.out; omega, by have := HRW.out; omega, by have := HRW.out; omega, by rw [Int.toNat_natCast]; exact HUB.out, HD5, HG2, HSZ5, HK5, HB5, ⟨by rw [Int.toNat_natCast]; exact HL2.out⟩⟩
            · have heb : ((bitsD (W : Int) d).2.1 != 0) = true := by simpa using he
              have HL2 := Aside0.mk ((if_neg he).symm.trans HLL.out)
              clear HLL he
              generalize (bitsD (W : Int) d).2.1 = be at heb ⊢
              generalize (bitsD (W : Int) d).1 = bv
              go_wp2
              go_ret2
              exact ⟨HB5.out, .inl ⟨by rw [HN3.out, ← HL2.out]; rfl, rfl⟩⟩
        · have hzn : z.toNat = 0 := by omega
          have hX2 : some (u, d) = X := by
            have := HL.out
            rw [hzn] at this
            rw [← this]
            cases gk <;> simp [lowD]
          have hu41 : u < 2 ^ 41 := Nat.lt_of_lt_of_le hub (Nat.pow_le_pow_right (by decide) (by omega))
          have HN4 : Aside0 (numD r = some (unfoldM (u : Int), ⟨d, (sawC r.c r.s k).1, (sawC r.c r.s k).2⟩)) := ⟨by rw [HN3.out, ← hX2]; rfl⟩
          have HSW := Aside0.mk (saw_any r.c r.s HC.out.small k hcl (by have h1 := HC.out.at k hcl; omega) (by have h1 := HC.out.at k hcl; omega) (by omega) B gc hB2 wr HKD.out)
          have HUF := Aside0.mk (fun W => Unfold_any (u : Int) (by omega) (by omega) W)
          clear hzn hX2 HL HN3 hu41 hub
          go_wp2_with fail
          with_reducible refine HSW.out.mono ?_
          rintro e w8 ⟨rfl, hk8, ht8⟩
          have HK8 := Aside0.mk hk8
          have HD8 := Aside0.mk (HD.out.seen HKD.out ht8)
          have HB8 := Aside0.mk (HBW.out.cnt ht8)
          clear hk8 ht8 HD HKD HBW HSW
          go_wp2_with fail
          with_reducible refine (HUF.out _).mono ?_
          rintro e w9 ⟨rfl, hd9⟩
          have HK9 := Aside0.mk (HK8.out.below hd9.below)
          have HD9 := Aside0.mk (HD8.out.below hd9.below)
          have HB9 : Aside0 (Two B g gc w w9) := ⟨HB8.out.drawn hd9⟩
          clear hd9
          go_wp2
          go_ret2
          exact ⟨HB9.out, .inr ⟨_, _, HN4.out, rfl, HD9.out, HK9.out⟩⟩
    · have htb : ((takeD f0 n0 r.s r.d).1 != 0) = true := by simpa using ht0
      have HN3 := Aside0.mk (HN2.out.trans (if_neg ht0))
      clear HN2 ht0
      generalize (takeD f0 n0 r.s r.d).1 = te at htb ⊢
      go_wp2
      go_ret2
      exact ⟨HB4.out, .inl ⟨HN3.out, rfl⟩⟩
  · have hpb : ((peekD r.d r.s).2 != 0) = true := by simpa using hp0
    have HN2 := Aside0.mk (HNU.out.trans (if_neg hp0))
    clear HNU hp0
    generalize (peekD r.d r.s).2 = pe at hpb ⊢
    go_wp2
    go_ret2
    exact ⟨HB1.out, .inl ⟨HN2.out, rfl⟩⟩
end Go.Proofs.Ytoologbaoifheaa.Hand
/- Contracts of layer 19, proved by hand: Decode. -/
namespace Go.Proofs.Ytoologbaoifheaa.Hand
open Go.RowKit Go.Proofs.Ytoologbaoifheaa.Q Go.Proofs.Ytoologbaoifheaa.Math Go.Proofs.YtoologbaoifheaaW.PrintWords Go.Proofs.YtoologbaoifheaaW.PrintLast Go.Proofs.YtoologbaoifheaaW.PrintMore
set_option linter.unusedVariables false
set_option linter.unusedSimpArgs false
attribute [local go_sem] max2_int min2_int max_two min_two

/-- A list that was made: R, wherever it lies. -/
def Got (w : World) (B : Nat) (v : Value) (xs : List Int) : Prop := Kd.R (Kd.int .i64) 3 w B (fun _ => True) v xs
theorem Got.below {w w' : World} {B : Nat} {v : Value} {xs : List Int} (h : Got w B v xs) (hb : Below w.heap.size w w') : Got w' B v xs := Kd.R_below h hb
theorem Got.C {w : World} {B : Nat} {v : Value} {xs : List Int} (h : Got w B v xs) : ∃ A c, v = .slice A xs.length c ∧ xs.length ≤ c ∧ Kd.C (Kd.int .i64) w A xs.length xs := Kd.R_reads h
/-- The list that is made while the decoder lies in g, the counts in gc. -/
abbrev DRow (w : World) (B g gc : Nat) (v : Value) (xs : List Int) : Prop := Kd.R (Kd.int .i64) 3 w B (fun k => k ≠ g ∧ k ≠ gc) v xs
theorem DRow.two {w w' : World} {B B2 g gc : Nat} {v : Value} {xs : List Int} (hr : DRow w B g gc v xs) (ht : Two B2 g gc w w') : DRow w' B g gc v xs := Kd.R_kept hr ht.2 (fun k hk h => h.elim hk.1 hk.2)
theorem DecAt.own {w w1 : World} {B g gc : Nat} {v : Value} {d : Dec} {xs : List Int} (h : DecAt w g d) (hr : DRow w B g gc v xs) (hg : w.grownBy w1 v.ownBlock) : DecAt w1 g d := (hg.block g (blk_lt h) (fun e => (hr.1 g e.symm).1 rfl)).trans h
theorem CntAt.own {w w1 : World} {B g gc : Nat} {v : Value} {c : List Int} {s : Int} {xs : List Int} (h : CntAt w gc c s) (hr : DRow w B g gc v xs) (hg : w.grownBy w1 v.ownBlock) : CntAt w1 gc c s := ⟨(hg.block gc h.lt (fun e => (hr.1 gc e.symm).2 rfl)).trans h.1, h.2⟩
theorem infoI : (Try.prog.info? 3).map (fun i => (i.zero, i.size, i.bytes)) = some (some (.int .i64 0), 1, 8) := by kernel_rfl
section
variable {ops : Array Oper} {o : Oper} {a : Act} {Q : Exit → Act → World → Prop} {rest : List Oper}
theorem app_dec {w0 W : World} {B g gc : Nat} {d : Dec} {c : List Int} {t : Int} (s x : Operand) (y : Int) {v : Value} {xs : List Int} (hgd : o.guard = none)
    (ho : o.op = .call { callee := .builtin .append, args := #[s, x], argTypes := #[25, 25] }) (hs : a.eval s = v) (hx : a.eval x = .slice (some ⟨W.heap.size, 0, none⟩) 1 1)
    (HO : DRow W B g gc v xs) (HD : DecAt W g d) (HC : CntAt W gc c t) (HB : Below B w0 W) (hB : B ≤ W.heap.size) (hl : xs.length < 17592186044415)
    (h : ∀ v1 w1, Aside0 (DRow w1 B g gc v1 (xs ++ [y])) → Aside0 (DecAt w1 g d) → Aside0 (CntAt w1 gc c t) → Aside0 (Below B w0 w1) → wpList Try.prog ops Q rest (a.put o.dst v1) w1) :
    wpList Try.prog ops Q (o :: rest) a (W.alloc (.cells #[.int .i64 y] 3)) :=
  Kd.R_append (Kd.int .i64) (w0 := w0) B hgd s x 25 3 (.int .i64 0) 8 ho Try.underlying25 infoI rfl (by decide) (by omega) v xs y [.int .i64 y] (fun k => k ≠ g ∧ k ≠ gc) (fun _ => False) hs hx rfl (fun _ hk => hk.elim)
    (fun k hk => ⟨by have := blk_lt HD; omega, by have := HC.lt; omega⟩) HO HB hB (by omega) (fun v1 w1 h1 h2 h3 h4 => h v1 w1 ⟨h1⟩ ⟨HD.own HO h3⟩ ⟨HC.own HO h3⟩ ⟨h2⟩)
end
theorem lowD_ok : ∀ (f left u : Nat) (d : Dec) (x : Nat) (d' : Dec), lowD f left u d = some (x, d') → GoodD d → GoodD d' ∧ d'.s = d.s
  | 0, left, u, d, x, d', h, hg => by
    simp only [lowD] at h
    injection h with h
    injection h with h1 h2
    subst h2
    exact ⟨hg, rfl⟩
  | f + 1, left, u, d, x, d', h, hg => by
    unfold lowD at h
    split at h
    · injection h with h
      injection h with h1 h2
      subst h2
      exact ⟨hg, rfl⟩
    · split at h
      · have h2 := lowD_ok f _ _ _ x d' h (bitsD_good _ d hg)
        exact ⟨h2.1, h2.2.trans (bitsD_s _ d)⟩
      · cases h
theorem num_ok (r : Rt) (x : Int) (r' : Rt) (h : numD r = some (x, r')) (hg : GoodD r.d) (hc : CountsOk r.c r.s) : GoodD r'.d ∧ CountsOk r'.c r'.s ∧ r'.d.s = r.d.s := by
  unfold numD at h
  split at h
  · split at h
    · obtain ⟨⟨y, d'⟩, h1, h2⟩ := Option.map_eq_some_iff.1 h
      injection h2 with h3 h4
      subst h4
      obtain ⟨a, b⟩ := lowD_ok _ _ _ _ _ _ h1 (takeD_good r.d _ _ _ hg)
      have hcl : classD r < 42 := by
        have := findC_lt r.c 42 0 (peekD r.d r.s).1 (by decide)
        unfold classD
        omega
      exact ⟨a, hc.saw _ hcl, b.trans (takeD_s _ _ _ _)⟩
    · cases h
  · cases h
set_option maxHeartbeats 8000000 in
set_option maxRecDepth 100000 in
theorem Decode_any (s : ByteArray) (hs : s.size ≤ 9223372036854775807) (n : Int) (w : World) :
    Calls Try.prog 15 #[.string s, .int .i64 n] w fun e w' => ∃ v, e = .returned (.tuple #[v, .int .i64 (decF s n).2.1, .int .i64 (decF s n).2.2]) ∧ Got w' w.heap.size v (decF s n).1 ∧ Below w.heap.size w w' := by
  have hup := Try.underlying67
  have HF : Aside0 (decF s n = if n < 0 ∨ 16777216 < n then (([], 0, 1) : List Int × Int × Int) else if (ofD s).bad = true then (([], 0, 2) : List Int × Int × Int) else
    match decs n.toNat ⟨ofD s, ones, 42⟩ [] with
    | none => (([], 0, 2) : List Int × Int × Int)
    | some (out, r) => ((out, r.d.pos, 0) : List Int × Int × Int)) := ⟨rfl⟩
  have HNIL : ∀ W : World, Got W w.heap.size (.slice none 0 0) [] := fun W => Kd.R_nil _ _ _ _ _
  have HNI := Aside0.mk HNIL
  clear HNIL
  by_cases hn : n < 0 ∨ 16777216 < n
  · have HR := Aside0.mk (HF.out.trans (if_pos hn))
    clear HF
    have hn2 : n < 0 ∨ ¬ n < 0 ∧ 16777216 < n := by omega
    clear hn
    rcases hn2 with hn | ⟨hn, hn3⟩
    · go_enter Try.func15, Try.ntmps15
      go_wp2
      go_ret3
      rw [HR.out]
      exact ⟨_, rfl, HNI.out _, Below.refl _ _⟩
    · go_enter Try.func15, Try.ntmps15
      go_wp2
      go_ret3
      rw [HR.out]
      exact ⟨_, rfl, HNI.out _, Below.refl _ _⟩
  · have HR := Aside0.mk (HF.out.trans (if_neg hn))
    have n0 : 0 ≤ n := by omega
    have n1 : n ≤ 16777216 := by omega
    have HOF := Aside0.mk (Of_any s hs w.heap.size w (Nat.le_refl _))
    have hod : (ofD s).s = s := by
      by_cases hb : s.size < 5 ∨ ¬ bt s 0 = 0
      · rw [ofD_bad s hb]
      · rw [ofD_good s hb]
    have HOS : Aside0 ((ofD s).s.size ≤ 9223372036854775807) := ⟨by rw [hod]; exact hs⟩
    have HOG := Aside0.mk (ofD_ok s)
    have hpk : peekD (ofD s) 1 = if (ofD s).bad = true then (0, 2) else ((peekD (ofD s) 1).1, 0) := by
      unfold peekD
      rw [if_neg (by decide)]
      split
      · rfl
      · rfl
    have HPK := Aside0.mk hpk
    clear HF hn hod hs hpk
    generalize ofD s = d0 at HR HOF HOS HOG HPK
    go_enter Try.func15, Try.ntmps15
    go_wp2_with fail
    with_reducible refine HOF.out.mono ?_
    rintro e w1 ⟨g, rfl, hg1, hd1, hb1⟩
    have HD1 := Aside0.mk hd1
    have HB1 := Aside0.mk hb1
    clear hd1 hb1
    go_wp2_with fail
    with_reducible refine (begun_any w1).mono ?_
    rintro e w2 ⟨rfl, hc2, hb2⟩
    have HC2 := Aside0.mk hc2
    have HD2 := Aside0.mk (HD1.out.below hb2)
    have HB2 := Aside0.mk (HB1.out.trans (hb2.mono HB1.out.size))
    have hgc : w.heap.size ≤ w1.heap.size := HB1.out.size
    have hne : g ≠ w1.heap.size := by have := blk_lt HD1.out; omega
    clear hc2 hb2 HD1 HB1
    obtain ⟨B, hB⟩ : ∃ B, w.heap.size = B := ⟨_, rfl⟩
    have HBB := Aside0.mk hB
    rw [hB] at hg1 HB2 hgc HNI
    clear hB
    generalize w1.heap.size = gc at HC2 hgc hne ⊢
    go_wp2_with fail
    with_reducible refine (Peek_any d0 1 g w2 HD2.out HOG.out).mono ?_
    rintro e w3 ⟨rfl, hd3⟩
    have HD3 := Aside0.mk (HD2.out.below hd3.below)
    have HC3 := Aside0.mk (HC2.out.below hd3.below)
    have HB3 : Aside0 (Below B w w3) := ⟨HB2.out.trans (hd3.below.mono (by have := HC2.out.lt; omega))⟩
    clear hd3 HD2 HC2 HB2
    rw [HPK.out]
    cases hbad : d0.bad with
    | true =>
      have HR2 := Aside0.mk (HR.out.trans (if_pos hbad))
      clear HR
      rw [if_pos rfl]
      go_wp2
      go_ret3
      rw [HR2.out, HBB.out]
      exact ⟨_, rfl, HNI.out _, HB3.out⟩
    | false =>
      have HR2 := Aside0.mk (HR.out.trans (if_neg (by rw [hbad]; decide)))
      clear HR
      rw [if_neg (by decide)]
      generalize (peekD d0 1).1 = p0
      have HO3 : Aside0 (DRow w3 B g gc (.slice none 0 0) []) := ⟨Kd.R_nil (Kd.int .i64) 3 w3 B (fun k => k ≠ g ∧ k ≠ gc)⟩
      obtain ⟨X, hX⟩ : ∃ X, decs n.toNat ⟨d0, ones, 42⟩ [] = X := ⟨_, rfl⟩
      rw [hX] at HR2
      have HX := Aside0.mk hX
      have HCO := Aside0.mk begun_ok
      clear hX
      go_wp2
      go_loopw [11, 31] (fun ov iv wr => ∃ (i : Nat) (r : Rt) (out : List Int), (i : Int) ≤ n ∧ iv = .int .i64 i ∧ out.length = i ∧ Aside0 (GoodD r.d) ∧ Aside0 (CountsOk r.c r.s) ∧ Aside0 (r.d.s.size ≤ 9223372036854775807) ∧ Aside0 (DecAt wr g r.d) ∧ Aside0 (CntAt wr gc r.c r.s) ∧ Aside0 (DRow wr B g gc ov out) ∧ Aside0 (Below B w wr) ∧ Aside0 (decs (n.toNat - i) r out = X)) (fun _ iv _ => n.toNat - (intOf iv).toNat)
      case atStart => exact ⟨0, ⟨d0, ones, 42⟩, [], by omega, rfl, rfl, HOG, HCO, HOS, HD3, HC3, HO3, HB3, HX⟩
      case round =>
        clear HOG HCO HOS HD3 HC3 HO3 HB3 HX HPK HOF
        obtain ⟨i, r, out, hi, rfl, hlen, HG, HC, HS, HD, HK, HO, HB, HX⟩ := hrel
        by_cases hlt : (i : Int) < n
        · have hB9 : B ≤ wr.heap.size := by have := HK.out.lt; omega
          have HNA := Aside0.mk (number_any r HG.out HC.out HS.out B g gc hg1 hgc wr HD.out HK.out hB9)
          obtain ⟨m, hm⟩ : ∃ m, n.toNat - i = m + 1 := ⟨n.toNat - i - 1, by omega⟩
          have HX2 : Aside0 ((match numD r with | none => none | some (x, r') => decs m r' (out ++ [x])) = X) := ⟨by have := HX.out; rw [hm] at this; exact this⟩
          have hm2 : n.toNat - (i + 1) = m := by omega
          clear HX hm
          go_wp2_with fail
          with_reducible refine HNA.out.mono ?_
          rintro e w5 ⟨ht5, ⟨hq, rfl⟩ | ⟨x, r', hq, rfl, hd5, hk5⟩⟩
          · have HXN : Aside0 (X = none) := ⟨by have := HX2.out; rw [hq] at this; exact this.symm⟩
            have HB5 := Aside0.mk (HB.out.trans ht5.1)
            clear ht5 hq HX2 HNA
            go_wp2
            go_ret3
            rw [HR2.out, HXN.out, HBB.out]
            exact ⟨_, rfl, HNI.out _, HB5.out⟩
          · have HX3 : Aside0 (decs m r' (out ++ [x]) = X) := ⟨by have := HX2.out; rw [hq] at this; exact this⟩
            have hok := num_ok r x r' hq HG.out HC.out
            have HG5 := Aside0.mk hok.1
            have HC5 := Aside0.mk hok.2.1
            have HS5 : Aside0 (r'.d.s.size ≤ 9223372036854775807) := ⟨by rw [hok.2.2]; exact HS.out⟩
            have HB5 := Aside0.mk (HB.out.trans ht5.1)
            have HO5 := Aside0.mk (HO.out.two ht5)
            have HD5 := Aside0.mk hd5
            have HK5 := Aside0.mk hk5
            have hB5 : B ≤ w5.heap.size := by have := hk5.lt; omega
            clear ht5 hq HX2 HNA hok hd5 hk5 HG HC HS HD HK HO HB
            go_wp2_with (at_builtin; (with_reducible refine app_dec (w0 := w) (B := B) (g := g) (gc := gc) (d := r'.d) (c := r'.c) (t := r'.s) (v := u11) (xs := out) (.tmp 41) (.tmp 43) x ?_ ?_ ?_ ?_ ?_ ?_ ?_ ?_ ?_ ?_ ?_); rfl; rfl; rfl; rfl; exact HO5.out; exact HD5.out; exact HK5.out; exact HB5.out; exact hB5; omega; intro v1 w6 HO6 HD6 HK6 HB6)
            go_roundw
            case rel => exact ⟨i + 1, r', out ++ [x], by omega, by go_num, by rw [List.length_append, hlen]; rfl, HG5, HC5, HS5, HD6, HK6, HO6, HB6, ⟨by rw [hm2]; exact HX3.out⟩⟩
            case measure => simp [intOf]; omega
        · have hz : n.toNat - i = 0 := by omega
          have HXS : Aside0 (X = some (out, r)) := ⟨by have := HX.out; rw [hz] at this; exact this.symm⟩
          clear hz HX
          go_wp2_with fail
          with_reducible refine (Used_any r.d g _ HD.out).mono ?_
          rintro e w7 ⟨rfl, hd7⟩
          have HO7 := Aside0.mk (Kd.R_below HO.out hd7.below)
          have HB7 : Aside0 (Below B w w7) := ⟨HB.out.trans (hd7.below.mono (by have := HK.out.lt; omega))⟩
          clear hd7
          go_wp2
          go_ret3
          rw [HR2.out, HXS.out, HBB.out]
          exact ⟨_, rfl, Kd.R_mono HO7.out (fun _ _ => trivial), HB7.out⟩
end Go.Proofs.Ytoologbaoifheaa.Hand
