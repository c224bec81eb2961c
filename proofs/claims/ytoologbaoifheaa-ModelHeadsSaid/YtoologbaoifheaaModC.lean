/- Contracts of layer 19, proved by hand: a class is seen. -/
import Derived.Test.YtoologbaoifheaaModB
import Derived.Deep.MidRow
namespace Go.Proofs.Ytoologbaoifheaa.Hand
open Go.RowKit Go.Deep Go.Proofs.YtoologbaoifheaaW.PrintWords Go.Proofs.YtoologbaoifheaaW.PrintLast Go.Proofs.YtoologbaoifheaaW.PrintMore
set_option linter.unusedVariables false
set_option linter.unusedSimpArgs false

theorem info42 : (Try.prog.info? 51).map (·.size) = some 42 := by kernel_rfl
theorem CntAt.range {w : World} {g : Nat} {c : List Int} {s : Int} (h : CntAt w g c s) : w.rangeAt g 0 (c.map (Value.int .i64)) := by
  intro j v hv
  rw [List.getElem?_map] at hv
  have hj : j < c.length := by
    rcases Nat.lt_or_ge j c.length with h1 | h1
    · exact h1
    · rw [List.getElem?_eq_none h1] at hv
      cases hv
  rw [Nat.zero_add, h.cell j (by rw [← h.2]; exact hj)]
  rw [List.getElem?_eq_getElem hj] at hv
  rw [List.getD_eq_getElem?_getD, List.getElem?_eq_getElem hj]
  exact hv
theorem half_small {d : List Int} (hl : d.length = 42) (h : Small d) (i : Nat) (hi : i ≤ 42) : Small (halfTo d i) := by
  intro j
  have hj := h j
  by_cases h1 : j < i
  · rw [halfTo_low d i j hl hi h1]
    omega
  · have e : (halfTo d i).getD j 0 = d.getD j 0 := by
      unfold halfTo
      have hl2 : ((d.take i).map (fun x => (x + 1) / 2)).length = i := by rw [List.length_map, List.length_take]; omega
      rw [List.getD_eq_getElem?_getD, List.getElem?_append_right (by omega), hl2, List.getElem?_drop, show i + (j - i) = j by omega, List.getD_eq_getElem?_getD]
    rw [e]
    exact hj
theorem info64 : (Try.prog.info? 3).map (fun i => (i.zero, i.size, i.bytes)) = some (some (.int .i64 0), 1, 8) := by kernel_rfl
theorem index42 (d : List Int) (hl : d.length = 42) (i : Nat) (hi : i < 42) (w : World) : (Instr.index 51 (.agg (d.map (Value.int .i64)).toArray) (.int .i64 i)).run Try.prog w = .ok (.int .i64 (d.getD i 0)) w := by
  obtain ⟨i0, h0, hz0, hz1, hz2⟩ := info_parts info64
  have hu := Try.underlying51
  have he := Try.underlying3
  have e1 : (0 : Int) ≤ (i : Int) ∧ (i : Int) < ((42 : Nat) : Int) := by omega
  have hat : (d.map (Value.int .i64)).toArray[i]? = some (.int .i64 (d.getD i 0)) := by
    rw [List.getElem?_toArray, List.getElem?_map, List.getD_eq_getElem?_getD, List.getElem?_eq_getElem (by rw [hl]; exact hi)]
    rfl
  generalize (d.map (Value.int .i64)).toArray = cs at hat ⊢
  generalize d.getD i 0 = y at hat ⊢
  have hs : (sizeOf 3).run Try.prog w = .ok 1 w := by simp [sizeOf, typeInfo, h0, hz1, go_sem]
  have hg : (isAgg 3).run Try.prog w = .ok false w := by simp [isAgg, run_underlying he, go_sem]
  simp [Instr.index, run_underlying hu, asIntOf, hs, part, hg, hat, e1, hi, go_sem]
theorem CntAt.drew {w : World} {g : Nat} {c : List Int} {s : Int} (h : CntAt w g c s) : CntAt w.drew g c s := h
set_option maxHeartbeats 8000000 in
set_option maxRecDepth 100000 in
theorem saw_any (c : List Int) (s : Int) (hs : Small c) (x : Nat) (hx : x < 42) (hy2 : c.getD x 0 ≤ 65504) (s0 : 0 ≤ s) (s1 : s ≤ 65536) (B g : Nat) (hB : B ≤ g) (w : World) (h : CntAt w g c s) :
    Calls Try.prog 24 #[.pointer (some ⟨g, 0, none⟩), .int .i64 x] w fun e w' => e = .returned (.tuple #[]) ∧ CntAt w' g (sawC c s x).1 (sawC c s x).2 ∧ Turned B g w w' := by
  have x0 : (0 : Int) ≤ (x : Int) := by omega
  have x1 : (x : Int) < 42 := by omega
  have hxn : x ≠ 42 := by omega
  have cX : w.cell? ⟨g, x, none⟩ = some (.int .i64 (c.getD x 0)) := h.cell x hx
  have fX := h.frozen x
  have cS := h.total
  have fS := h.frozen 42
  have hcx := hs x
  have HSW : Aside0 (sawC c s x = if s + 32 ≤ 32768 then (c.set x (c.getD x 0 + 32), s + 32) else ((c.set x (c.getD x 0 + 32)).map (fun x => (x + 1) / 2), belowC ((c.set x (c.getD x 0 + 32)).map (fun x => (x + 1) / 2)) 42)) := ⟨rfl⟩
  have HS2 := Aside0.mk (hs.set x (c.getD x 0 + 32) (by omega) (by omega))
  obtain ⟨y, hy⟩ : ∃ y, c.getD x 0 = y := ⟨_, rfl⟩
  rw [hy] at cX hcx HSW HS2 hy2
  have e1 : IntKind.i64.wrap (y + 32) = y + 32 := by rw [IntKind.wrap_i64]; omega
  have e2 : IntKind.i64.wrap (s + 32) = s + 32 := by rw [IntKind.wrap_i64]; omega
  have HC1 := Aside0.mk (h.drew.set x hx (y + 32))
  have HT1 : Aside0 (Turned B g w (w.drew.setCell ⟨g, x, none⟩ (.int .i64 (y + 32)))) := ⟨((Turned.refl B g w).drewN 1).set hB x _⟩
  obtain ⟨d, hd⟩ : ∃ d, c.set x (y + 32) = d := ⟨_, rfl⟩
  rw [hd] at HC1 HSW HS2
  obtain ⟨r, hr⟩ : ∃ r, sawC c s x = r := ⟨_, rfl⟩
  rw [hr] at HSW ⊢
  clear h hs hd hcx hy hr hy2
  go_enter Try.func24, Try.ntmps24
  go_wp2
  go_still_tail 10, (by kernel_rfl)
  repeat still_step
  have cX2 : w.drew.cell? ⟨g, x, none⟩ = some (.int .i64 y) := cX
  have fX2 : w.drew.frozen? ⟨g, x, none⟩ = false := fX
  have cS2 : w.drew.cell? ⟨g, 42, none⟩ = some (.int .i64 s) := cS
  have fS2 : w.drew.frozen? ⟨g, 42, none⟩ = false := fS
  clear cX fX cS fS
  change wpList _ _ _ _ _ w.drew
  generalize w.drew = wz at HC1 HT1 cX2 fX2 cS2 fS2 ⊢
  by_cases hle : s + 32 ≤ 32768
  · have hr2 : r = (d, s + 32) := HSW.out.trans (if_pos hle)
    go_wp2
    refine bodyPost_ret (results_none rfl _ _ _) rfl ?_
    rw [hr2]
    exact ⟨rfl, HC1.out.setSum (s + 32), HT1.out.set hB 42 _⟩
  · have hr2 : r = (d.map (fun x => (x + 1) / 2), belowC (d.map (fun x => (x + 1) / 2)) 42) := HSW.out.trans (if_neg hle)
    have HR := Aside0.mk hr2
    clear hr2 HSW
    have hC3 := (HC1.out.setSum (s + 32)).setSum 0
    have HT3 := Aside0.mk ((HT1.out.set hB 42 (.int .i64 (s + 32))).set hB 42 (.int .i64 0))
    have hlen : d.length = 42 := HC1.out.2
    have HRG := Aside0.mk hC3.range
    have HIN : Aside0 ((Try.prog.info? 51).map (·.size) = some (d.map (Value.int .i64)).length) := ⟨by rw [List.length_map, hlen]; exact info42⟩
    have HC3 := Aside0.mk hC3
    have HLEN := Aside0.mk hlen
    clear hC3 hlen
    go_wp2_with (with_reducible refine wpList_load_mid rfl 51 (.tmp 33) rfl g 0 rfl (d.map (Value.int .i64)) _ HRG.out Try.underlying51 rfl HIN.out ?_)
    clear cX2 fX2 cS2 fS2 HC1 HT1 HRG HIN
    generalize ((wz.setCell ⟨g, x, none⟩ (.int .i64 (y + 32))).setCell ⟨g, 42, none⟩ (.int .i64 (s + 32))).setCell ⟨g, 42, none⟩ (.int .i64 0) = w3 at HC3 HT3 ⊢
    go_loopw [35] (fun iv wr => ∃ i : Nat, i ≤ 42 ∧ iv = .int .i64 i ∧ Aside0 (CntAt wr g (halfTo d i) (belowC (halfTo d i) i)) ∧ Aside0 (Turned B g w wr)) (fun iv _ => 42 - (intOf iv).toNat)
    case atStart => exact ⟨0, by omega, rfl, by simpa [halfTo, belowC] using HC3, HT3⟩
    case round =>
      clear HC3 HT3
      obtain ⟨i, hi, rfl, HC, HT⟩ := hrel
      by_cases hlt : i < 42
      · have i0 : (0 : Int) ≤ (i : Int) := by omega
        have i1 : (i : Int) < 42 := by omega
        have hin : i ≠ 42 := by omega
        have hix : ∀ W : World, (Instr.index 51 (.agg (d.map (Value.int .i64)).toArray) (.int .i64 i)).run Try.prog W = .ok (.int .i64 (d.getD i 0)) W := fun W => index42 d HLEN.out i hlt W
        have hz := HS2.out i
        have hset := halfTo_next d i HLEN.out hlt
        have hbn := below_next d i HLEN.out hlt
        have hbb : 0 ≤ belowC (halfTo d i) i ∧ belowC (halfTo d i) i ≤ 65536 * i := belowC_in _ (half_small HLEN.out HS2.out i (by omega)) i
        have cI : wr.cell? ⟨g, i, none⟩ = some (.int .i64 ((halfTo d i).getD i 0)) := HC.out.cell i hlt
        have fI := HC.out.frozen i
        have cT := HC.out.total
        have fT := HC.out.frozen 42
        obtain ⟨z, hzz⟩ : ∃ z, d.getD i 0 = z := ⟨_, rfl⟩
        rw [hzz] at hix hz hset hbn
        have HZK := Aside0.mk hzz
        clear hzz
        generalize (halfTo d i).getD i 0 = zo at cI
        obtain ⟨z2, hz2⟩ : ∃ z2, (z + 1) / 2 = z2 := ⟨_, rfl⟩
        rw [hz2] at hset hbn
        have HZ2K := Aside0.mk hz2
        have q1 : IntKind.i64.wrap (z + 1) = z + 1 := by rw [IntKind.wrap_i64]; omega
        have q2 : (z + 1).tdiv 2 = z2 := by rw [Int.tdiv_eq_ediv_of_nonneg (by omega)]; omega
        have q3 : IntKind.i64.wrap z2 = z2 := by rw [IntKind.wrap_i64]; omega
        have HC1 := Aside0.mk (HC.out.set i hlt z2)
        rw [hset] at HC1
        have HT1 := Aside0.mk (HT.out.set hB i (.int .i64 z2))
        obtain ⟨b, hb⟩ : ∃ b, belowC (halfTo d i) i = b := ⟨_, rfl⟩
        rw [hb] at cT hbn hbb HC1
        have q4 : IntKind.i64.wrap (b + z2) = b + z2 := by rw [IntKind.wrap_i64]; omega
        have HBN := Aside0.mk hbn
        clear hbn hbb hset hz hz2 hb HC HT
        go_wp2
        clear cI fI cT fT hix
        generalize wr.setCell ⟨g, i, none⟩ (.int .i64 z2) = w8 at HC1 HT1 ⊢
        have hgi : (halfTo d (i + 1)).getD i 0 = z2 := by rw [halfTo_low d (i + 1) i HLEN.out (by omega) (by omega), HZK.out, HZ2K.out]
        have cI : w8.cell? ⟨g, i, none⟩ = some (.int .i64 z2) := by rw [HC1.out.cell i hlt, hgi]
        have cT : w8.cell? ⟨g, 42, none⟩ = some (.int .i64 b) := HC1.out.total
        clear hgi
        go_still_tail 13, (by kernel_rfl)
        repeat still_step
        have HC2 : Aside0 (CntAt w8.drew g (halfTo d (i + 1)) b) := ⟨HC1.out.drew⟩
        have HT2 : Aside0 (Turned B g w w8.drew) := ⟨HT1.out.drewN 1⟩
        have cT2 : w8.drew.cell? ⟨g, 42, none⟩ = some (.int .i64 b) := HC2.out.total
        have fT2 : w8.drew.frozen? ⟨g, 42, none⟩ = false := HC2.out.frozen 42
        clear HC1 HT1 cI cT
        change wpList _ _ _ _ _ w8.drew
        generalize w8.drew = wz at HC2 HT2 cT2 fT2 ⊢
        go_wp2
        go_roundw
        case rel => exact ⟨i + 1, by omega, by go_num, ⟨by rw [HBN.out]; exact HC2.out.setSum (b + z2)⟩, ⟨HT2.out.set hB 42 _⟩⟩
        case measure => simp [intOf]; omega
      · have hi2 : i = 42 := by omega
        have n1 : ¬ (i : Int) < 42 := by omega
        rw [hi2, halfTo_all d HLEN.out] at HC
        clear hi2
        go_wp2
        refine bodyPost_end (results_none rfl _ _ _) rfl ?_
        rw [HR.out]
        exact ⟨rfl, HC.out, HT.out⟩
end Go.Proofs.Ytoologbaoifheaa.Hand
