/- Contracts of layer 17, proved by hand: a step of the reference sees a number. -/
import Derived.Test.YteljaikpechbmaaHandP
namespace Go.Proofs.Yteljaikpechbmaa.Hand
open Go.RowKit Go.Proofs.Yteljaikpechbmaa.Q Go.Proofs.YteljaikpechbmaaW.PrintWords Go.Proofs.YteljaikpechbmaaW.PrintLast Go.Proofs.YteljaikpechbmaaW.PrintMore
set_option linter.unusedVariables false
set_option linter.unusedSimpArgs false

set_option maxHeartbeats 2000000 in
theorem xsign_any (n : Int) (w : World) : Calls Try.prog 32 #[.int .i64 n] w fun e w' => e = .returned (.int .i64 (sgn n)) ∧ w' = w := by
  unfold sgn
  by_cases h : n < 0
  · rw [if_pos h]
    go_enter Try.func32, Try.ntmps32
    go_wp2
    go_ret
    exact ⟨rfl, rfl⟩
  · rw [if_neg h]
    by_cases h2 : 0 < n
    · rw [if_pos h2]
      go_enter Try.func32, Try.ntmps32
      go_wp2
      go_ret
      exact ⟨rfl, rfl⟩
    · rw [if_neg h2]
      go_enter Try.func32, Try.ntmps32
      go_wp2
      go_ret
      exact ⟨rfl, rfl⟩
/-- A reference's step's own blocks. -/
def XO (g : Nat) (wv sv : Value) (k : Nat) : Prop := k = g ∨ wv.ownBlock = some k ∨ sv.ownBlock = some k
theorem Own.ne {w : World} {B : Nat} {v : Value} {xs : List Int} (h : Own w B v xs) {g t : Nat} {cs : Array Value} (hb : w.heap[g]? = some (.cells cs t (0, 0))) (ht : t ≠ 3) : v.ownBlock ≠ some g := (Kd.R_ne h hb (fun e => ht e.symm)).symm
theorem Own.lt {w : World} {B : Nat} {v : Value} {xs : List Int} (h : Own w B v xs) : ∀ k, v.ownBlock = some k → k < w.heap.size := Kd.R_lt h
theorem Own.put {w : World} {B b n c : Nat} {xs : List Int} (h : Own w B (.slice (some ⟨b, 0, none⟩) n c) xs) (i : Nat) (y : Int) : Own (w.setCell ⟨b, i, none⟩ (.int .i64 y)) B (.slice (some ⟨b, 0, none⟩) n c) (xs.set i y) := by
  have := Kd.R_putn (enc := Value.int .i64) (h1 := fun _ => rfl) h (i : Int) y
  rw [Int.toNat_natCast] at this
  exact this
theorem XStep.weight {w : World} {B g b n c : Nat} {sv : Value} {s : Step} (h : XStep w B g (.slice (some ⟨b, 0, none⟩) n c) sv s) (i : Nat) (y : Int) : XStep (w.setCell ⟨b, i, none⟩ (.int .i64 y)) B g (.slice (some ⟨b, 0, none⟩) n c) sv ⟨s.W.set i y, s.S⟩ := by
  have hg : b ≠ g := fun e => h.wr.ne h.hd (by decide) (by rw [← e]; rfl)
  have hk : Kept w (w.setCell ⟨b, i, none⟩ (.int .i64 y)) (fun k => k = b) := (Kept.refl w (fun k => k = b)).setCell (p := ⟨b, i, none⟩) (.inl rfl) _
  exact ⟨blk_kept h.hd hk (fun e => hg e.symm), h.wr.put i y, h.sr.kept hk (fun k hk e => h.ne b rfl (e ▸ hk)), h.base, h.ne⟩
section
variable {ops : Array Oper} {o : Oper} {a : Act} {Q : Exit → Act → World → Prop} {Kc : Act → World → Prop}
theorem app_front {w0 W : World} {B : Nat} (s x : Operand) (y : Int) (ys : List Int) (A : Option Addr) (m c : Nat) (hw : Region.wanted o (yielded ops a.tmps) = true)
    (ho : o.op = .call { callee := .builtin .append, args := #[s, x], argTypes := #[22, 22] }) (hs : a.eval s = .slice (some ⟨W.heap.size, 0, none⟩) 1 1) (hx : a.eval x = .slice A m c)
    (HC : Kd.C (Kd.int .i64) W A m ys) (HB : Below B w0 W) (hB : B ≤ W.heap.size) (hl : m ≤ 1000)
    (h : ∀ v1 w1, Aside0 (Own w1 B v1 (y :: ys)) → Aside0 (Below B w0 w1) → Aside0 (Below W.heap.size W w1) → Aside0 (∀ k, v1.ownBlock = some k → W.heap.size ≤ k) → Kc (a.put o.dst v1) w1) :
    if Region.wanted o (yielded ops a.tmps) = true then Oper.wp Try.prog o a (W.alloc (.cells #[.int .i64 y] 3)).drew Kc Q else Kc (a.put o.dst undef) (W.alloc (.cells #[.int .i64 y] 3)).drew := by
  have hbw : Below W.heap.size W (W.alloc (.cells #[.int .i64 y] 3)).drew := below_drew (below_alloc (Below.refl _ _) _)
  have hown : Kd.R (Kd.int .i64) 3 (W.alloc (.cells #[.int .i64 y] 3)).drew W.heap.size (fun _ => True) (.slice (some ⟨W.heap.size, 0, none⟩) 1 1) [y] := Kd.R_drew (Kd.R_of_own (by
    have := World.ownsRow_lit (base := W.heap.size) (e := 3) (size := 1) W #[.int .i64 y] 1 (Nat.le_refl _) (by unfold maxLen; omega) (by simp)
    simpa [encs] using this) (fun _ _ => trivial))
  have hc : Kd.C (Kd.int .i64) (W.alloc (.cells #[.int .i64 y] 3)).drew A m ys := Kd.C_below HC hbw
  refine Kd.R_append_rows_step (Kd.int .i64) (w0 := W) W.heap.size hw s x 22 3 (.int .i64 0) 8 ho Try.underlying22 info3 rfl (by decide) (by decide) (.slice (some ⟨W.heap.size, 0, none⟩) 1 1) [y] ys A m c (fun _ => True) (fun _ => False) hs hx hown hc ?_ (fun _ hk => hk.elim) (fun _ _ => trivial) hbw hbw.size (by simp; omega) ?_
  · intro x cs hx
    exact hx
  · intro v1 w1 h1 h2 h3 h4
    refine h v1 w1 ⟨Kd.R_lower (Own.of h1) hB⟩ ⟨HB.trans (h2.mono hB)⟩ ⟨h2⟩ ⟨fun k hk => ?_⟩
    exact Kd.R_base h1 k hk
end
theorem wsee_next (ws : List Int) (f : Nat → Int) (l : Int) (k : Nat) (v : Int) (h : IntKind.i16.wrap (ws.getD k 0 + 8 * sgn l * sgn (f k)) = v) : wsee ws f l (k + 1) = (wsee ws f l k).set k v := by rw [wsee, h]
theorem Own.set {w : World} {B : Nat} {v : Value} {xs : List Int} (h : Own w B v xs) {g t : Nat} {cs : Array Value} (hb : w.heap[g]? = some (.cells cs t (0, 0))) (ht : t ≠ 3) (j : Nat) (u : Value) : Own (w.setCell ⟨g, j, none⟩ u) B v xs :=
  h.kept ((Kept.refl w (fun k => k = g)).setCell (p := ⟨g, j, none⟩) (.inl rfl) u) (fun b hb2 e => h.ne hb ht (e ▸ hb2))
theorem xsee_close {wr w1 : World} {B g : Nat} {wv sv v1 : Value} {W' S : List Int} {y : Int} (h : XStep wr B g wv sv ⟨W', S⟩) (hw : Below wr.heap.size wr w1) (ho : Own w1 B v1 (y :: S.dropLast)) (hf : ∀ k, v1.ownBlock = some k → wr.heap.size ≤ k) :
    XStep (w1.setCell ⟨g, 1, none⟩ v1) B g wv v1 ⟨W', y :: S.dropLast⟩ := by
  have hd1 := blk_below h.hd hw
  have hw1 : Own w1 B wv W' := h.wr.kept (Kept.of_below hw (fun _ => False)) (fun _ _ h => h)
  exact ⟨blk_put hd1 1 v1 rfl, hw1.set hd1 (by decide) 1 v1, ho.set hd1 (by decide) 1 v1, h.base, fun k hk e => by
    have := hf k e
    have := h.wr.lt k hk
    omega⟩
theorem Saw.new {B : Nat} {S : Nat → Prop} {w w1 w2 : World} (h : Saw B S w w1) (hB : B ≤ w1.heap.size) (k : Below w1.heap.size w1 w2) : Saw B S w w2 := ⟨h.below.trans (k.mono hB), h.kept.below k⟩
set_option maxHeartbeats 8000000 in
set_option maxRecDepth 100000 in
theorem xsee_any (s : Step) (B g : Nat) (wv sv : Value) (ho : Okay s) (x l : Int) (l0 : -9223372036854775808 ≤ l) (l1 : l ≤ 9223372036854775807) (w : World) (h : XStep w B g wv sv s) :
    Calls Try.prog 28 #[.pointer (some ⟨g, 0, none⟩), .int .i64 x, .int .i64 l] w fun e w' => e = .returned (.tuple #[]) ∧ ∃ sv', XStep w' B g wv sv' (s.see x l) ∧ Saw B (XO g wv sv) w w' ∧ ∀ k, sv'.ownBlock = some k → w.heap.size ≤ k := by
  have H := Aside0.mk h
  have HOK := Aside0.mk ho
  obtain ⟨n, hnn⟩ : ∃ n, s.W.length = n := ⟨_, rfl⟩
  have HN := Aside0.mk hnn
  have hn := ho.n
  rw [hnn] at hn
  obtain ⟨m, hmm⟩ : ∃ m, s.S.length = m + 1 := ⟨s.S.length - 1, by have := ho.l; split at this <;> omega⟩
  have HL := Aside0.mk hmm
  have hnm : n ≤ m + 1 ∧ m ≤ 64 := by have := ho.l; rw [hnn, hmm] at this; split at this <;> omega
  obtain ⟨hnm1, hnm2⟩ := hnm
  obtain ⟨A, c, ew, hc1, _⟩ := h.wr.C
  obtain ⟨bs, d, es, hd1, _, _, _, _⟩ := h.sr.place 0 (by omega)
  rw [hnn] at ew hc1
  rw [hmm] at es hd1
  subst ew es
  clear h hnn hmm
  go_enter Try.func28, Try.ntmps28
  go_wp2
  go_loopw [6] (fun iv wr => ∃ k : Nat, k ≤ n ∧ iv = .int .i64 k ∧ Aside0 (XStep wr B g (.slice A n c) (.slice (some ⟨bs, 0, none⟩) (m + 1) d) ⟨wsee s.W s.seen l k, s.S⟩) ∧ Aside0 (Saw B (XO g (.slice A n c) (.slice (some ⟨bs, 0, none⟩) (m + 1) d)) w wr)) (fun iv _ => n - (intOf iv).toNat)
  case atStart => exact ⟨0, Nat.zero_le _, rfl, H, ⟨Saw.refl _ _ _⟩⟩
  case round =>
    obtain ⟨k, hk, rfl, HS, HM⟩ := hrel
    have hlen : (wsee s.W s.seen l k).length = n := by rw [wsee_length, HN.out]
    by_cases hlt : k < n
    · have i0 : (0 : Int) ≤ (k : Int) := by omega
      have i1 : (k : Int) < (n : Int) := by omega
      have i2 : (k : Int) < (m : Int) + 1 := by omega
      have c0 : wr.cell? ⟨g, 0, none⟩ = _ := blk_cell HS.out.hd 0
      have c1 : wr.cell? ⟨g, 1, none⟩ = some (.slice (some ⟨bs, 0, none⟩) (m + 1) d) := blk_cell HS.out.hd 1
      obtain ⟨bw, cw, e1, _, cw1, fw1, hBw, _⟩ := HS.out.wr.place k (by show k < (wsee s.W s.seen l k).length; omega)
      obtain ⟨bs2, cs2, e2, _, cs1, _, _, _⟩ := HS.out.sr.place k (by show k < s.S.length; rw [HL.out]; omega)
      have e1' : Value.slice A n c = .slice (some ⟨bw, 0, none⟩) n cw := by
        rw [e1]
        show Value.slice _ (wsee s.W s.seen l k).length _ = _
        rw [hlen]
      injection e1' with eA _ ec
      subst eA ec
      have e2' : Value.slice (some ⟨bs, 0, none⟩) (m + 1) d = .slice (some ⟨bs2, 0, none⟩) (m + 1) cs2 := by
        rw [e2]
        show Value.slice _ s.S.length _ = _
        rw [HL.out]
      injection e2' with eB _ ed
      injection eB with eB
      injection eB with eB
      subst eB ed
      have c0' : wr.cell? ⟨g, 0, none⟩ = some (.slice (some ⟨bw, 0, none⟩) n c) := c0
      have cw1' : wr.cell? ⟨bw, k, none⟩ = some (.int .i64 ((wsee s.W s.seen l k).getD k 0)) := cw1
      rw [wsee_at s.W s.seen l k k (Nat.le_refl _)] at cw1'
      have cs1' : wr.cell? ⟨bs, k, none⟩ = some (.int .i64 (s.seen k)) := cs1
      have b1 := HOK.out.w.at k
      have b2 := HOK.out.seen k
      have hg1 := sgn_in l
      have hg2 := sgn_in (s.seen k)
      have HS1 := Aside0.mk (fun W => xsign_any l W)
      have HS2 := Aside0.mk (fun W => xsign_any (s.seen k) W)
      have hnx := wsee_next s.W s.seen l k _ rfl
      have hvi := i16_in (s.W.getD k 0 + 8 * sgn l * sgn (s.seen k))
      have HT := Aside0.mk (fun (W : World) (hW : W.heap = wr.heap) (v : Int) => (HS.out.heap hW).weight k v)
      generalize s.W.getD k 0 = y at cw1' b1 hnx hvi
      generalize sgn l = sl at hg1 HS1 hnx hvi
      generalize sgn (s.seen k) = sx at hg2 HS2 hnx hvi
      generalize s.seen k = z at cs1' b2 HS2
      obtain ⟨q, hq⟩ : ∃ q, sl * sx = q := ⟨_, rfl⟩
      have hq8 : 8 * sl * sx = q * 8 := by rw [← hq, Int.mul_assoc, Int.mul_comm]
      have q1 : -1 ≤ q ∧ q ≤ 1 := by
        rw [← hq]
        rcases hg1 with rfl | rfl | rfl <;> rcases hg2 with rfl | rfl | rfl <;> decide
      have ep : IntKind.i64.wrap (sl * sx) = q := by rw [hq, IntKind.wrap_i64]; omega
      rw [hq8] at hnx hvi
      obtain ⟨v, hv⟩ : ∃ v, IntKind.i16.wrap (y + q * 8) = v := ⟨_, rfl⟩
      rw [hv] at hnx hvi
      have HNX := Aside0.mk hnx
      obtain ⟨q1, q2⟩ := q1
      obtain ⟨y1, y2⟩ := b1
      obtain ⟨v1, v2⟩ := hvi
      clear hnx hq hq8 hg1 hg2 c0 cw1 cs1 b2 hlen e1 e2
      go_wp2
      go_still_tail 28, (by kernel_rfl)
      still_call (HS1.out _)
      repeat still_step
      still_call (HS2.out _)
      repeat still_step
      refine wpStill_nil ?_
      have HE2 := Aside0.mk (HT.out wr.drew rfl v)
      have HM2 := Aside0.mk (HM.out.drew.set bw k hBw (.inr (.inl rfl)) (.int .i64 v))
      have cw2 : wr.drew.cell? ⟨bw, k, none⟩ = some (.int .i64 y) := cw1'
      have fw2 : wr.drew.frozen? ⟨bw, k, none⟩ = false := fw1
      clear c0' c1 cw1' fw1 cs1' HT
      change wpList _ _ _ _ _ wr.drew
      generalize wr.drew = wz at HE2 HM2 cw2 fw2 ⊢
      go_wp2
      go_roundw
      case rel => exact ⟨k + 1, by omega, by go_num, ⟨by rw [HNX.out]; exact HE2.out⟩, HM2⟩
      case measure => simp [intOf]; omega
    · obtain rfl : k = n := by omega
      have c0 : wr.cell? ⟨g, 0, none⟩ = some (.slice A k c) := blk_cell HS.out.hd 0
      have c1 : wr.cell? ⟨g, 1, none⟩ = some (.slice (some ⟨bs, 0, none⟩) (m + 1) d) := blk_cell HS.out.hd 1
      have hdl : s.S.dropLast.length = m := by rw [List.length_dropLast, HL.out]; omega
      have hC2 : Kd.C (Kd.int .i64) wr (some ⟨bs, 0, none⟩) (⟨wsee s.W s.seen l k, s.S⟩ : Step).S.length (⟨wsee s.W s.seen l k, s.S⟩ : Step).S := by
        obtain ⟨A2, d2, e2, _, hC2⟩ := HS.out.sr.C
        injection e2 with eA _ _
        rw [eA]
        exact hC2
      have hC3 := C_head m hC2 (by show m ≤ s.S.length; rw [HL.out]; omega)
      have hdt : (⟨wsee s.W s.seen l k, s.S⟩ : Step).S.take m = s.S.dropLast := by
        rw [List.dropLast_eq_take]
        show s.S.take m = _
        rw [HL.out]
        rfl
      rw [hdt, hdl] at hC3
      have HCY := Aside0.mk hC3
      have m0 : (0 : Int) ≤ (m : Int) := by omega
      have e5 : IntKind.i64.wrap (((m + 1 : Nat) : Int) - 1) = (m : Int) := by rw [IntKind.wrap_i64]; omega
      have e6 : IntKind.i64.wrap ((m : Int) + 1 - 1) = (m : Int) := by rw [IntKind.wrap_i64]; omega
      have e7 : IntKind.i64.wrap (m : Int) = (m : Int) := by rw [IntKind.wrap_i64]; omega
      have m1 : ¬ (d : Int) < (m : Int) := by omega
      have m2 : (m : Int) ≤ (d : Int) := by omega
      have HBS : Aside0 (B ≤ wr.heap.size) := ⟨by have := HS.out.base; have := blk_lt HS.out.hd; omega⟩
      have cA : (wr.alloc (.cells #[.int .i64 x] 3)).cell? ⟨g, 1, none⟩ = some (.slice (some ⟨bs, 0, none⟩) (m + 1) d) := blk_cell (blk_alloc HS.out.hd _) 1
      clear hC2 hC3 hdt hdl
      go_wp2
      go_region_law (first | ((with_reducible refine app_front (w0 := w) (B := B) (.tmp 46) (.tmp 57) x s.S.dropLast (some ⟨bs, 0, none⟩) m d ?_ ?_ ?_ ?_ ?_ ?_ ?_ ?_ ?_); rfl; rfl; rfl; rfl; exact HCY.out; exact HM.out.below; exact HBS.out; omega; intro v1 w1 HO1 HB1 HW1 HF1; obtain ⟨A1, k1, e1, _, _⟩ := HO1.out.C; subst e1; have f11 : w1.frozen? ⟨g, 1, none⟩ = false := blk_frozen (blk_below HS.out.hd HW1.out) 1; have c11 : w1.cell? ⟨g, 1, none⟩ = some (.slice (some ⟨bs, 0, none⟩) (m + 1) d) := blk_cell (blk_below HS.out.hd HW1.out) 1))
      all_goals
        have HX1 := Aside0.mk (xsee_close HS.out HW1.out HO1.out HF1.out)
        have HM1 := Aside0.mk ((HM.out.new HBS.out HW1.out).set g 1 H.out.base (.inl rfl) (.slice A1 (x :: s.S.dropLast).length k1))
        have HF2 := Aside0.mk (fun k hk => Nat.le_trans HM.out.kept.1 (HF1.out k hk))
        have hz1 : (x :: s.S.dropLast).length = s.S.length - 1 + 1 := by simp
        rw [hz1] at HX1 HM1 HF2
        clear HS HM HO1 HB1 HW1 HF1 hz1 c0 c1 cA f11 c11
        go_wp2
        refine bodyPost_end (results_none rfl _ _ _) rfl ?_
        refine ⟨rfl, _, ?_, HM1.out, HF2.out⟩
        have hsee : s.see x l = ⟨wsee s.W s.seen l k, x :: s.S.dropLast⟩ := by unfold Step.see; rw [HN.out]
        rw [hsee]
        exact HX1.out
end Go.Proofs.Yteljaikpechbmaa.Hand
