/- Contracts of layer 1, proved by hand: a writer's bit. -/
import Derived.Test.YtlgkaegcocfhdaaState
import Derived.Test.YtlgkaegcocfhdaaMathA
namespace Go.Proofs.Ytlgkaegcocfhdaa.Hand
open Go.RowKit Go.Proofs.YtlgkaegcocfhdaaW.PrintWords Go.Proofs.YtlgkaegcocfhdaaW.PrintLast Go.Proofs.YtlgkaegcocfhdaaW.PrintMore
set_option linter.unusedVariables false
set_option linter.unusedSimpArgs false

/-- A writer in block g: its count, its bytes. -/
def Raw (w : World) (B g : Nat) (v : Value) (n : Nat) (xs : List Int) : Prop := w.heap[g]? = some (.cells #[.int .i64 n, v] 66 (0, 0)) ∧ BytesAt w B v xs ∧ B ≤ g
/-- A writer of these bits. -/
def WAt (w : World) (B g : Nat) (v : Value) (bs : List Bool) : Prop := Raw w B g v bs.length (pack bs)
theorem Raw.below {w w' : World} {B g n : Nat} {v : Value} {xs : List Int} (h : Raw w B g v n xs) (hb : Below w.heap.size w w') : Raw w' B g v n xs := ⟨blk_below h.1 hb, h.2.1.below hb, h.2.2⟩
theorem Raw.lt {w : World} {B g n : Nat} {v : Value} {xs : List Int} (h : Raw w B g v n xs) : g < w.heap.size := blk_lt h.1
theorem Raw.count {w : World} {B g n m : Nat} {v : Value} {xs : List Int} (h : Raw w B g v n xs) : Raw (w.setCell ⟨g, 0, none⟩ (.int .i64 m)) B g v m xs :=
  ⟨blk_put h.1 0 _ rfl, h.2.1.set h.1 (by decide) 0 _, h.2.2⟩
theorem Raw.grown {W w1 : World} {B g n : Nat} {v : Value} {xs : List Int} (h : Raw W B g v n xs) (hg : W.grownBy w1 v.ownBlock) : w1.heap[g]? = some (.cells #[.int .i64 n, v] 66 (0, 0)) := by
  rw [hg.block g h.lt (fun e => ?_)]
  · exact h.1
  · exact Kd.R_ne h.2.1.all h.1 (by decide) e
theorem Raw.put {w : World} {B g n : Nat} {v v1 : Value} {xs : List Int} (hb : w.heap[g]? = some (.cells #[.int .i64 n, v] 66 (0, 0))) (hr : BytesAt w B v1 xs) (hB : B ≤ g) : Raw (w.setCell ⟨g, 1, none⟩ v1) B g v1 n xs :=
  ⟨blk_put hb 1 v1 rfl, hr.set hb (by decide) 1 v1, hB⟩
/-- A byte of the row is turned. -/
theorem Raw.byte {w : World} {B g n b c m : Nat} {xs : List Int} (h : Raw w B g (.slice (some ⟨b, 0, none⟩) m c) n xs) (i : Nat) (y : Int) : Raw (w.setCell ⟨b, i, none⟩ (.int .u8 y)) B g (.slice (some ⟨b, 0, none⟩) m c) n (xs.set i y) := by
  have hne : g ≠ b := by
    have := Kd.R_ne h.2.1.all h.1 (by decide)
    simpa [Value.ownBlock] using this
  refine ⟨?_, h.2.1.store i y, h.2.2⟩
  rw [Below.heap_setCell w ⟨b, i, none⟩ _ g hne]
  exact h.1
theorem Moved.byte {B g b c m : Nat} {w w1 : World} {v : Value} (h : Moved B g w v w1 (.slice (some ⟨b, 0, none⟩) m c)) (hb : B ≤ b) (i : Nat) (u : Value) : Moved B g w v (w1.setCell ⟨b, i, none⟩ u) (.slice (some ⟨b, 0, none⟩) m c) :=
  ⟨h.below.setCell hb u, h.kept.setCell (p := ⟨b, i, none⟩) ((h.own b rfl).imp .inr id) u, h.own⟩
set_option maxHeartbeats 1000000 in
theorem at_any (g : Nat) (n : Int) (w : World) (hc : w.cell? ⟨g, 0, none⟩ = some (.int .i64 n)) : Calls Try.prog 38 #[.pointer (some ⟨g, 0, none⟩)] w fun e w' => e = .returned (.int .i64 n) ∧ w = w' := by
  go_enter Try.func38, Try.ntmps38
  go_wp2
  go_ret
  exact ⟨rfl, rfl⟩
theorem at_still (g : Nat) (n : Int) (w : World) (hc : w.cell? ⟨g, 0, none⟩ = some (.int .i64 n)) : Calls Try.prog 38 #[.pointer (some ⟨g, 0, none⟩)] w fun e w' => e = .returned (.int .i64 n) ∧ w' = w := (at_any g n w hc).mono fun _ _ ⟨h1, h2⟩ => ⟨h1, h2.symm⟩
set_option maxHeartbeats 1000000 in
theorem on_any (g : Nat) (n k : Int) (w : World) (hc : w.cell? ⟨g, 0, none⟩ = some (.int .i64 n)) (hf : w.frozen? ⟨g, 0, none⟩ = false) (h0 : 0 ≤ n) (h1 : n ≤ 4611686018427387904) (h2 : 0 ≤ k) (h3 : k ≤ 4611686018427387903) : Calls Try.prog 40 #[.pointer (some ⟨g, 0, none⟩), .int .i64 k] w fun e w' => e = .returned (.tuple #[]) ∧ w.setCell ⟨g, 0, none⟩ (.int .i64 (n + k)) = w' := by
  go_enter Try.func40, Try.ntmps40
  go_wp2
  refine bodyPost_end (results_none rfl _ _ _) rfl ?_
  exact ⟨rfl, rfl⟩
set_option maxHeartbeats 4000000 in
set_option maxRecDepth 100000 in
theorem bit_any (bs : List Bool) (one : Bool) (B g : Nat) (v : Value) (w : World) (h : WAt w B g v bs) (hl : bs.length < 1125899906842624) :
    Calls Try.prog 49 #[.pointer (some ⟨g, 0, none⟩), .bool one] w fun e w' => e = .returned (.tuple #[]) ∧ ∃ v', WAt w' B g v' (bs ++ [one]) ∧ Moved B g w v w' v' := by
  have hup := Try.underlying22
  obtain ⟨n, hn⟩ : ∃ n, bs.length = n := ⟨_, rfl⟩
  have hraw : Raw w B g v n (pack bs) := by rw [← hn]; exact h
  have H := Aside0.mk hraw
  have HN := Aside0.mk hn
  have hpf := pack_false bs
  have hpt := pack_true bs
  have hlen := pack_length bs
  rw [hn] at hpf hpt hl hlen
  have HPL := Aside0.mk hlen
  have HPF := Aside0.mk hpf
  have HPT := Aside0.mk hpt
  have c0 : w.cell? ⟨g, 0, none⟩ = some (.int .i64 n) := blk_cell hraw.1 0
  have c1 : w.cell? ⟨g, 1, none⟩ = some v := blk_cell hraw.1 1
  clear h hn hraw hpf hpt hlen
  go_enter Try.func49, Try.ntmps49
  by_cases h8 : n % 8 = 0
  · have h8' : (n : Int) % 8 = 0 := by omega
    have HPF2 := Aside0.mk (HPF.out.trans (if_pos h8))
    clear h8
    go_upto_region 2 with (first | (go_at_call 38; refine (at_any g n _ c0).mono ?_; rintro e w' ⟨rfl, rfl⟩) | (at_builtin; (with_reducible refine app_list (w0 := w) (B := B) (v := v) (xs := pack bs) (.tmp 14) (.tmp 15) _ ?_ ?_ ?_ ?_ ?_ ?_ ?_ ?_ ?_); rfl; rfl; rfl; rfl; exact H.out.2.1; exact Below.refl _ _; exact Nat.le_trans H.out.2.2 (Nat.le_of_lt H.out.lt); (rw [HPL.out]; omega); intro v1 w1 HO1 HB1 HG1 HV1; have hb1 := Raw.grown H.out HG1.out; obtain ⟨A1, k1, e1⟩ := BytesAt.slice HO1.out; subst e1; have c11 : w1.cell? ⟨g, 1, none⟩ = some v := blk_cell hb1 1; have f11 := blk_frozen hb1 1))
    · have hr := Raw.put hb1 HO1.out H.out.2.2
      rw [← HPF2.out] at hr
      have HR := Aside0.mk hr
      have HM := Aside0.mk ((Moved.app (Moved.refl B g w v) HG1.out HB1.out HV1.out).set H.out.2.2 1 (.slice A1 ((pack bs).length + 1) k1))
      clear hr c0 c1 c11 f11 hb1 HO1 HB1 HG1 HV1 h8'
      generalize w1.setCell ⟨g, 1, none⟩ (.slice A1 ((pack bs).length + 1) k1) = wq at HR HM ⊢
      generalize Value.slice A1 ((pack bs).length + 1) k1 = v1 at HR HM ⊢
      have HRL := Aside0.mk (pack_length (bs ++ [false]))
      have c0 : wq.cell? ⟨g, 0, none⟩ = some (.int .i64 n) := blk_cell HR.out.1 0
      have c1 : wq.cell? ⟨g, 1, none⟩ = some v1 := blk_cell HR.out.1 1
      have f0 : wq.frozen? ⟨g, 0, none⟩ = false := blk_frozen HR.out.1 0
      cases one with
      | false =>
        go_wp2_with fail
        refine (on_any g n 1 _ c0 f0 (by omega) (by omega) (by omega) (by omega)).mono ?_
        rintro e w' ⟨rfl, rfl⟩
        go_wp2
        refine bodyPost_end (results_none rfl _ _ _) rfl ?_
        refine ⟨rfl, v1, ?_, HM.out.set H.out.2.2 0 _⟩
        unfold WAt
        rw [List.length_append, List.length_singleton, HN.out]
        exact HR.out.count
      | true =>
        obtain ⟨x, hx, x0, x1, hp⟩ := HPT.out
        have HP := Aside0.mk hp
        obtain ⟨xs, hxs⟩ : ∃ xs, pack (bs ++ [false]) = xs := ⟨_, rfl⟩
        rw [hxs] at HR hx HP
        have hxl : xs.length = n / 8 + 1 := by rw [← hxs, HRL.out, List.length_append, List.length_singleton, HN.out]; omega
        obtain ⟨b, cap, e1, cb, fb, hBb, hbl⟩ := HR.out.2.1.place (n / 8) (by omega)
        rw [hxl] at e1
        have hxg : xs.getD (n / 8) 0 = x := by rw [List.getD_eq_getElem?_getD, hx]; rfl
        rw [hxg] at cb
        subst e1
        have HBB := Aside0.mk hBb
        obtain ⟨r, hr⟩ : ∃ r, n % 8 = r := ⟨_, rfl⟩
        have et : (n : Int).tmod 8 = (r : Int) := by rw [← hr, Int.tmod_eq_emod_of_nonneg (by omega)]; omega
        have HSH := Aside0.mk (show (128 : Int) / 2 ^ r = ((128 / 2 ^ (n % 8) : Nat) : Int) by rw [hr]; simp)
        have m0 : 0 ≤ (r : Int) := by omega
        have m1 : (r : Int) < 8 := by omega
        clear hr
        obtain ⟨j, hj⟩ : ∃ j, n / 8 = j := ⟨_, rfl⟩
        rw [hj] at cb fb c1 HP HM HR
        have e8 : IntKind.i64.wrap (j : Int) = (j : Int) := by rw [IntKind.wrap_i64]; omega
        have i0 : (0 : Int) ≤ (j : Int) := by omega
        have i1 : (j : Int) < (j : Int) + 1 := by omega
        have HJ := Aside0.mk hj
        clear hx hp hxs hxl hxg hBb hj
        go_wp2
        go_still_tail 20, (by kernel_rfl)
        still_call (at_still g n _ c0)
        repeat still_step
        refine wpStill_nil ?_
        have HR2 : Aside0 (Raw wq.drew B g (.slice (some ⟨b, 0, none⟩) (j + 1) cap) n xs) := ⟨HR.out.below (below_drew (Below.refl _ _))⟩
        have HM2 : Aside0 (Moved B g w v wq.drew (.slice (some ⟨b, 0, none⟩) (j + 1) cap)) := ⟨HM.out.drew⟩
        have cb2 : wq.drew.cell? ⟨b, j, none⟩ = some (.int .u8 x) := cb
        have fb2 : wq.drew.frozen? ⟨b, j, none⟩ = false := fb
        clear c0 c1 f0 cb fb HR HM
        change wpList _ _ _ _ _ wq.drew
        generalize wq.drew = wz at HR2 HM2 cb2 fb2 ⊢
        go_wp2_with fail
        have HR3 := Aside0.mk (HR2.out.byte j (Go.bits .or .u8 x (128 / 2 ^ r)))
        have HM3 := Aside0.mk (HM2.out.byte HBB.out j (.int .u8 (Go.bits .or .u8 x (128 / 2 ^ r))))
        refine (on_any g n 1 _ (blk_cell HR3.out.1 0) (blk_frozen HR3.out.1 0) (by omega) (by omega) (by omega) (by omega)).mono ?_
        rintro e w' ⟨rfl, rfl⟩
        go_wp2
        refine bodyPost_end (results_none rfl _ _ _) rfl ?_
        try rw [HJ.out]
        refine ⟨rfl, _, ?_, HM3.out.set H.out.2.2 0 _⟩
        unfold WAt
        rw [List.length_append, List.length_singleton, HN.out, HP.out, ← HSH.out]
        exact HR3.out.count
  · have h8' : ¬ (n : Int) % 8 = 0 := by omega
    have HPF2 := Aside0.mk (HPF.out.trans (if_neg h8))
    clear h8
    go_upto_region 2 with (first | (go_at_call 38; refine (at_any g n _ c0).mono ?_; rintro e w' ⟨rfl, rfl⟩))
    · have hr : Raw w B g v n (pack (bs ++ [false])) := by rw [HPF2.out]; exact H.out
      have HM := Aside0.mk (Moved.refl B g w v)
      have HR := Aside0.mk hr
      clear hr c0 c1 h8'
      have HRL := Aside0.mk (pack_length (bs ++ [false]))
      have c0 : w.cell? ⟨g, 0, none⟩ = some (.int .i64 n) := blk_cell HR.out.1 0
      have c1 : w.cell? ⟨g, 1, none⟩ = some v := blk_cell HR.out.1 1
      have f0 : w.frozen? ⟨g, 0, none⟩ = false := blk_frozen HR.out.1 0
      cases one with
      | false =>
        go_wp2_with fail
        refine (on_any g n 1 _ c0 f0 (by omega) (by omega) (by omega) (by omega)).mono ?_
        rintro e w' ⟨rfl, rfl⟩
        go_wp2
        refine bodyPost_end (results_none rfl _ _ _) rfl ?_
        refine ⟨rfl, v, ?_, HM.out.set H.out.2.2 0 _⟩
        unfold WAt
        rw [List.length_append, List.length_singleton, HN.out]
        exact HR.out.count
      | true =>
        obtain ⟨x, hx, x0, x1, hp⟩ := HPT.out
        have HP := Aside0.mk hp
        obtain ⟨xs, hxs⟩ : ∃ xs, pack (bs ++ [false]) = xs := ⟨_, rfl⟩
        rw [hxs] at HR hx HP
        have hxl : xs.length = n / 8 + 1 := by rw [← hxs, HRL.out, List.length_append, List.length_singleton, HN.out]; omega
        obtain ⟨b, cap, e1, cb, fb, hBb, hbl⟩ := HR.out.2.1.place (n / 8) (by omega)
        rw [hxl] at e1
        have hxg : xs.getD (n / 8) 0 = x := by rw [List.getD_eq_getElem?_getD, hx]; rfl
        rw [hxg] at cb
        subst e1
        have HBB := Aside0.mk hBb
        obtain ⟨r, hr⟩ : ∃ r, n % 8 = r := ⟨_, rfl⟩
        have et : (n : Int).tmod 8 = (r : Int) := by rw [← hr, Int.tmod_eq_emod_of_nonneg (by omega)]; omega
        have HSH := Aside0.mk (show (128 : Int) / 2 ^ r = ((128 / 2 ^ (n % 8) : Nat) : Int) by rw [hr]; simp)
        have m0 : 0 ≤ (r : Int) := by omega
        have m1 : (r : Int) < 8 := by omega
        clear hr
        obtain ⟨j, hj⟩ : ∃ j, n / 8 = j := ⟨_, rfl⟩
        rw [hj] at cb fb c1 HP HM HR
        have e8 : IntKind.i64.wrap (j : Int) = (j : Int) := by rw [IntKind.wrap_i64]; omega
        have i0 : (0 : Int) ≤ (j : Int) := by omega
        have i1 : (j : Int) < (j : Int) + 1 := by omega
        have HJ := Aside0.mk hj
        clear hx hp hxs hxl hxg hBb hj
        go_wp2
        go_still_tail 20, (by kernel_rfl)
        still_call (at_still g n _ c0)
        repeat still_step
        refine wpStill_nil ?_
        have HR2 : Aside0 (Raw w.drew B g (.slice (some ⟨b, 0, none⟩) (j + 1) cap) n xs) := ⟨HR.out.below (below_drew (Below.refl _ _))⟩
        have HM2 : Aside0 (Moved B g w (.slice (some ⟨b, 0, none⟩) (j + 1) cap) w.drew (.slice (some ⟨b, 0, none⟩) (j + 1) cap)) := ⟨HM.out.drew⟩
        have cb2 : w.drew.cell? ⟨b, j, none⟩ = some (.int .u8 x) := cb
        have fb2 : w.drew.frozen? ⟨b, j, none⟩ = false := fb
        clear c0 c1 f0 cb fb HR HM
        change wpList _ _ _ _ _ w.drew
        generalize w.drew = wz at HR2 HM2 cb2 fb2 ⊢
        go_wp2_with fail
        have HR3 := Aside0.mk (HR2.out.byte j (Go.bits .or .u8 x (128 / 2 ^ r)))
        have HM3 := Aside0.mk (HM2.out.byte HBB.out j (.int .u8 (Go.bits .or .u8 x (128 / 2 ^ r))))
        refine (on_any g n 1 _ (blk_cell HR3.out.1 0) (blk_frozen HR3.out.1 0) (by omega) (by omega) (by omega) (by omega)).mono ?_
        rintro e w' ⟨rfl, rfl⟩
        go_wp2
        refine bodyPost_end (results_none rfl _ _ _) rfl ?_
        try rw [HJ.out]
        refine ⟨rfl, _, ?_, HM3.out.set H.out.2.2 0 _⟩
        unfold WAt
        rw [List.length_append, List.length_singleton, HN.out, HP.out, ← HSH.out]
        exact HR3.out.count
end Go.Proofs.Ytlgkaegcocfhdaa.Hand
