/- Texts of this claim's proof, laid behind each other by a program of ours, without what the proof does not reach: Contracts of layer 8, proved by hand: Decode, where it is refused at once; Contracts of layer 8, proved by hand: Decode, where it is refused behind its head; Contracts of layer 8, proved by hand: Decode, words of its loop; Contracts of layer 8, proved by hand: Decode, where its head may be (method 0); Contracts of layer 8, proved by hand: Decode, where its head may be (method 1) -/
import Derived.Laws.StructEq
import Derived.Test.YtfhekkoibmlmpaaLst1
import Derived.Test.YtfhekkoibmlmpaaLst2
import Derived.Test.YtfhekkoibmlmpaaLst3
import Derived.Test.YtfhekkoibmlmpaaLst4
import Derived.Test.YtfhekkoibmlmpaaLst5
import Derived.Test.YtfhekkoibmlmpaaLstWApart
import Derived.Test.YtfhekkoibmlmpaaLstWFoot
import Derived.Test.YtfhekkoibmlmpaaLstWGuard
import Derived.Test.YtfhekkoibmlmpaaLstWInv
import Derived.Test.YtfhekkoibmlmpaaLstWKept
import Derived.Test.YtfhekkoibmlmpaaLstWLast
import Derived.Test.YtfhekkoibmlmpaaLstWMore
import Derived.Test.YtfhekkoibmlmpaaLstWN
import Derived.Test.YtfhekkoibmlmpaaLstWRepsOne
import Derived.Test.YtfhekkoibmlmpaaLstWShare
import Derived.Test.YtfhekkoibmlmpaaLstWTab
import Derived.Test.YtfhekkoibmlmpaaLstWWords
/- Contracts of layer 8, proved by hand: Decode, where it is refused at once. -/
namespace Go.Proofs.Ytfhekkoibmlmpaa.Hand
open Go.RowKit Go.Proofs.Ytfhekkoibmlmpaa.Q Go.Proofs.YtfhekkoibmlmpaaW.PrintWords Go.Proofs.YtfhekkoibmlmpaaW.PrintLast Go.Proofs.YtfhekkoibmlmpaaW.PrintMore
set_option linter.unusedVariables false
set_option linter.unusedSimpArgs false

def badArgs (block order : Int) : Prop := block < 1 ∨ 65535 < block ∨ order < 0 ∨ 32 < order ∨ block < order
instance (block order : Int) : Decidable (badArgs block order) := by unfold badArgs; infer_instance
set_option maxHeartbeats 8000000 in
set_option maxRecDepth 100000 in
theorem Decode_arg (block order : Int) (p : Value) (w : World) (hp : p = .pointer none ∨ ∃ g, p = .pointer (some ⟨g, 0, none⟩) ∧ badArgs block order) :
    Calls Try.prog 21 #[p, .int .i64 block, .int .i64 order] w fun e w' => e = .returned (.tuple #[.slice none 0 0, .agg zRice, .int .i64 1]) ∧ Below w.heap.size w w' := by
  have hup := Try.underlying45
  have HZ := Aside0.mk (blk_new w (.cells zRice 24 (0, 0)))
  have HB := Aside0.mk (below_alloc (Below.refl w.heap.size w) (.cells zRice 24 (0, 0)))
  have h6 : p = .pointer none ∨ (∃ g, p = .pointer (some ⟨g, 0, none⟩) ∧ block < 1) ∨ (∃ g, p = .pointer (some ⟨g, 0, none⟩) ∧ ¬ block < 1 ∧ 65535 < block) ∨ (∃ g, p = .pointer (some ⟨g, 0, none⟩) ∧ ¬ block < 1 ∧ ¬ 65535 < block ∧ order < 0) ∨
      (∃ g, p = .pointer (some ⟨g, 0, none⟩) ∧ ¬ block < 1 ∧ ¬ 65535 < block ∧ ¬ order < 0 ∧ 32 < order) ∨ (∃ g, p = .pointer (some ⟨g, 0, none⟩) ∧ ¬ block < 1 ∧ ¬ 65535 < block ∧ ¬ order < 0 ∧ ¬ 32 < order ∧ block < order) := by
    rcases hp with h | ⟨g, h, hb⟩
    · exact .inl h
    · unfold badArgs at hb
      by_cases c1 : block < 1
      · exact .inr (.inl ⟨g, h, c1⟩)
      by_cases c2 : 65535 < block
      · exact .inr (.inr (.inl ⟨g, h, c1, c2⟩))
      by_cases c3 : order < 0
      · exact .inr (.inr (.inr (.inl ⟨g, h, c1, c2, c3⟩)))
      by_cases c4 : 32 < order
      · exact .inr (.inr (.inr (.inr (.inl ⟨g, h, c1, c2, c3, c4⟩))))
      · exact .inr (.inr (.inr (.inr (.inr ⟨g, h, c1, c2, c3, c4, by omega⟩))))
  clear hp
  rcases h6 with rfl | ⟨g, rfl, h1⟩ | ⟨g, rfl, h1, h2⟩ | ⟨g, rfl, h1, h2, h3⟩ | ⟨g, rfl, h1, h2, h3, h4⟩ | ⟨g, rfl, h1, h2, h3, h4, h5⟩
  all_goals
    go_enter Try.func21, Try.ntmps21
    go_wp2_with ((with_reducible refine wpList_store_row ?_ 24 (.tmp 7) (.tmp 44) ?_ w.heap.size zRice ?_ ?_ 24 zRice HZ.out (rc_info _ _ _ _) ?_ (rc_one _ _ _ _ _ _ _ _) ?_); rfl; rfl; rfl; rfl; rfl)
    refine bodyPost_ret (results_tct rfl _ _ w.heap.size 24 zRice (0, 0) _ rfl (setRow_heap _ _ _ _ _ _ HZ.out) Try.underlying24 rfl (rc_info _ _ _ _)) rfl ?_
    exact ⟨rfl, below_setRow HB.out (Nat.le_refl _) _⟩
end Go.Proofs.Ytfhekkoibmlmpaa.Hand

/- Contracts of layer 8, proved by hand: Decode, where it is refused behind its head. -/
namespace Go.Proofs.Ytfhekkoibmlmpaa.Hand
open Go.RowKit Go.Proofs.Ytfhekkoibmlmpaa.Q Go.Proofs.YtfhekkoibmlmpaaW.PrintWords Go.Proofs.YtfhekkoibmlmpaaW.PrintLast Go.Proofs.YtfhekkoibmlmpaaW.PrintMore
set_option linter.unusedVariables false
set_option linter.unusedSimpArgs false

theorem RAt.setRow {w : World} {g b q : Nat} {s : ByteArray} {cs : Array Value} (h : RAt w g s q) (hb : b ≠ g) : RAt (w.setRow b cs) g s q := by
  unfold RAt
  rw [setRow_other w b g cs (fun e => hb e.symm)]
  exact h
theorem Turned.setRow {B g b : Nat} {w w' : World} {cs : Array Value} (h : Turned B g w w') (hb : w.heap.size ≤ b) (hB : B ≤ b) : Turned B g w (w'.setRow b cs) :=
  ⟨below_setRow h.below hB cs, ⟨by have := h.kept.1; simpa [World.setRow] using this, fun i hi hn => by rw [setRow_other w' b i cs (by omega)]; exact h.kept.2 i hi hn⟩⟩
set_option maxHeartbeats 8000000 in
set_option maxRecDepth 100000 in
theorem Decode_head (s : ByteArray) (hs : s.size ≤ 281474976710656) (p : Nat) (hp : p ≤ 8 * s.size) (block order : Int) (hbad : ¬ badArgs block order) (B g : Nat) (hB : B ≤ g) (w : World) (hR : RAt w g s p)
    (h : ¬ (getR s p 2).2.1 = 0 ∨ ((getR s p 2).2.1 = 0 ∧ ¬ (getR s (getR s p 2).2.2 4).2.1 = 0) ∨ ((getR s p 2).2.1 = 0 ∧ (getR s (getR s p 2).2.2 4).2.1 = 0 ∧ ¬ shapeP (getR s p 2).1 (getR s (getR s p 2).2.2 4).1 block order)) :
    Calls Try.prog 21 #[.pointer (some ⟨g, 0, none⟩), .int .i64 block, .int .i64 order] w fun e w' => e = .returned (.tuple #[.slice none 0 0, .agg zRice, .int .i64 2]) ∧ (∃ q, RAt w' g s q ∧ q ≤ 8 * s.size) ∧ Turned B g w w' := by
  have hup := Try.underlying45
  obtain ⟨x1, x2, x3, x4, x5⟩ : ¬ block < 1 ∧ ¬ 65535 < block ∧ ¬ order < 0 ∧ ¬ 32 < order ∧ ¬ block < order := by unfold badArgs at hbad; omega
  have hgl := hR.lt
  have hbel : Below w.heap.size w (w.alloc (.cells zRice 24)) := below_alloc (Below.refl _ _) _
  have HG1 := Aside0.mk (Get_any s hs p hp 2 B g hB (w.alloc (.cells zRice 24)) (hR.below hbel))
  have hat1 := getR_at s p 2 hp
  have hl1 : (getR s p 2).1 < 4 := getR_small s p 2
  have HG2 : Aside0 (∀ W, RAt W g s (getR s p 2).2.2 → Calls Try.prog 41 #[.pointer (some ⟨g, 0, none⟩), .int .i64 4] W fun e w' => e = .returned (.tuple #[.int .u64 (getR s (getR s p 2).2.2 4).1, .int .i64 (getR s (getR s p 2).2.2 4).2.1]) ∧ RAt w' g s (getR s (getR s p 2).2.2 4).2.2 ∧ Turned B g W w') := ⟨fun W h => Get_any s hs _ hat1 4 B g hB W h⟩
  have hat2 := getR_at s (getR s p 2).2.2 4 hat1
  have hl2 : (getR s (getR s p 2).2.2 4).1 < 16 := getR_small s _ 4
  have HT0 := Aside0.mk ((Turned.refl B g w).new hbel (by omega))
  have HZ0 := Aside0.mk (blk_new w (.cells zRice 24 (0, 0)))
  have hb7 : w.heap.size ≠ g := by omega
  have HS := Aside0.mk hs
  clear hbad hR hbel hs
  generalize getR s (getR s p 2).2.2 4 = gr2 at h HG2 hat2 hl2 ⊢
  generalize getR s p 2 = gr1 at h HG1 HG2 hat1 hl1 ⊢
  obtain ⟨a1, e1, q1⟩ := gr1
  obtain ⟨a2, e2, q2⟩ := gr2
  simp only at h HG1 HG2 hat1 hat2 hl1 hl2 ⊢
  rcases h with h | ⟨h, h9⟩ | ⟨h, h9, hsh⟩
  · have hne : (e1 != 0) = true := bne_iff_ne.mpr h
    go_enter Try.func21, Try.ntmps21
    go_wp2_with fail
    with_reducible refine HG1.out.mono ?_
    rintro e w2 ⟨rfl, hr2, ht2⟩
    have HR2 := Aside0.mk hr2
    have HT2 := Aside0.mk (HT0.out.trans ht2)
    have HZ2 := Aside0.mk (blk_kept HZ0.out ht2.kept (fun h => hb7 h))
    clear hr2 ht2 HG1 HT0 HZ0
    go_wp2_with fail
    with_reducible refine (HG2.out w2 HR2.out).mono ?_
    rintro e w3 ⟨rfl, hr3, ht3⟩
    have HR3 := Aside0.mk hr3
    have HT3 := Aside0.mk (HT2.out.trans ht3)
    have HZ3 := Aside0.mk (blk_kept HZ2.out ht3.kept (fun h => hb7 h))
    have hg3 := hr3.lt
    have hsz3 := HT3.out.kept.1
    clear hr3 ht3 HG2 HT2 HZ2 HR2
    have HB4 := Aside0.mk (below_setRow (below_alloc (Below.refl w3.heap.size w3) (.cells zRice 24 (0, 0))) (Nat.le_refl _) #[.int .i64 a1, .int .i64 a2, .slice none 0 0, .slice none 0 0])
    have HX4 := Aside0.mk (setRow_heap _ _ _ #[.int .i64 (a1 : Int), .int .i64 (a2 : Int), .slice none 0 0, .slice none 0 0] _ _ (blk_new w3 (.cells zRice 24 (0, 0))))
    have HZ4 := Aside0.mk (blk_below HZ3.out HB4.out)
    have HR4 := Aside0.mk (HR3.out.below HB4.out)
    have HT4 := Aside0.mk (HT3.out.new HB4.out (by omega))
    clear HZ3 HR3 HT3 HB4
    clear h
    go_wp2_with (first | ((with_reducible refine wpList_store_row ?_ 24 (.tmp 13) (.tmp 59) ?_ w3.heap.size #[.int .i64 a1, .int .i64 a2, .slice none 0 0, .slice none 0 0] ?_ ?_ 24 zRice (blk_new w3 (.cells zRice 24 (0, 0))) (rc_info _ _ _ _) ?_ (rc_one _ _ _ _ _ _ _ _) ?_); rfl; rfl; rfl; rfl; rfl) | ((with_reducible refine wpList_store_row ?_ 24 (.tmp 7) (.tmp 73) ?_ w.heap.size zRice ?_ ?_ 24 zRice HZ4.out (rc_info _ _ _ _) ?_ (rc_one _ _ _ _ _ _ _ _) ?_); rfl; rfl; rfl; rfl; rfl))
    refine bodyPost_ret (results_tct rfl _ _ w.heap.size 24 zRice (0, 0) _ rfl (setRow_heap _ _ _ _ _ _ HZ4.out) Try.underlying24 rfl (rc_info _ _ _ _)) rfl ?_
    exact ⟨rfl, ⟨q2, HR4.out.setRow hb7, hat2⟩, HT4.out.setRow (Nat.le_refl _) (by omega)⟩
  · have hne : (e2 != 0) = true := bne_iff_ne.mpr h9
    subst h
    go_enter Try.func21, Try.ntmps21
    go_wp2_with fail
    with_reducible refine HG1.out.mono ?_
    rintro e w2 ⟨rfl, hr2, ht2⟩
    have HR2 := Aside0.mk hr2
    have HT2 := Aside0.mk (HT0.out.trans ht2)
    have HZ2 := Aside0.mk (blk_kept HZ0.out ht2.kept (fun h => hb7 h))
    clear hr2 ht2 HG1 HT0 HZ0
    go_wp2_with fail
    with_reducible refine (HG2.out w2 HR2.out).mono ?_
    rintro e w3 ⟨rfl, hr3, ht3⟩
    have HR3 := Aside0.mk hr3
    have HT3 := Aside0.mk (HT2.out.trans ht3)
    have HZ3 := Aside0.mk (blk_kept HZ2.out ht3.kept (fun h => hb7 h))
    have hg3 := hr3.lt
    have hsz3 := HT3.out.kept.1
    clear hr3 ht3 HG2 HT2 HZ2 HR2
    have HB4 := Aside0.mk (below_setRow (below_alloc (Below.refl w3.heap.size w3) (.cells zRice 24 (0, 0))) (Nat.le_refl _) #[.int .i64 a1, .int .i64 a2, .slice none 0 0, .slice none 0 0])
    have HX4 := Aside0.mk (setRow_heap _ _ _ #[.int .i64 (a1 : Int), .int .i64 (a2 : Int), .slice none 0 0, .slice none 0 0] _ _ (blk_new w3 (.cells zRice 24 (0, 0))))
    have HZ4 := Aside0.mk (blk_below HZ3.out HB4.out)
    have HR4 := Aside0.mk (HR3.out.below HB4.out)
    have HT4 := Aside0.mk (HT3.out.new HB4.out (by omega))
    clear HZ3 HR3 HT3 HB4
    clear h9
    go_wp2_with (first | ((with_reducible refine wpList_store_row ?_ 24 (.tmp 13) (.tmp 59) ?_ w3.heap.size #[.int .i64 a1, .int .i64 a2, .slice none 0 0, .slice none 0 0] ?_ ?_ 24 zRice (blk_new w3 (.cells zRice 24 (0, 0))) (rc_info _ _ _ _) ?_ (rc_one _ _ _ _ _ _ _ _) ?_); rfl; rfl; rfl; rfl; rfl) | ((with_reducible refine wpList_store_row ?_ 24 (.tmp 7) (.tmp 73) ?_ w.heap.size zRice ?_ ?_ 24 zRice HZ4.out (rc_info _ _ _ _) ?_ (rc_one _ _ _ _ _ _ _ _) ?_); rfl; rfl; rfl; rfl; rfl))
    refine bodyPost_ret (results_tct rfl _ _ w.heap.size 24 zRice (0, 0) _ rfl (setRow_heap _ _ _ _ _ _ HZ4.out) Try.underlying24 rfl (rc_info _ _ _ _)) rfl ?_
    exact ⟨rfl, ⟨q2, HR4.out.setRow hb7, hat2⟩, HT4.out.setRow (Nat.le_refl _) (by omega)⟩
  · subst h
    subst h9
    have HSH := Aside0.mk hsh
    clear hsh
    go_enter Try.func21, Try.ntmps21
    go_wp2_with fail
    with_reducible refine HG1.out.mono ?_
    rintro e w2 ⟨rfl, hr2, ht2⟩
    have HR2 := Aside0.mk hr2
    have HT2 := Aside0.mk (HT0.out.trans ht2)
    have HZ2 := Aside0.mk (blk_kept HZ0.out ht2.kept (fun h => hb7 h))
    clear hr2 ht2 HG1 HT0 HZ0
    go_wp2_with fail
    with_reducible refine (HG2.out w2 HR2.out).mono ?_
    rintro e w3 ⟨rfl, hr3, ht3⟩
    have HR3 := Aside0.mk hr3
    have HT3 := Aside0.mk (HT2.out.trans ht3)
    have HZ3 := Aside0.mk (blk_kept HZ2.out ht3.kept (fun h => hb7 h))
    have hg3 := hr3.lt
    have hsz3 := HT3.out.kept.1
    clear hr3 ht3 HG2 HT2 HZ2 HR2
    have HB4 := Aside0.mk (below_setRow (below_alloc (Below.refl w3.heap.size w3) (.cells zRice 24 (0, 0))) (Nat.le_refl _) #[.int .i64 a1, .int .i64 a2, .slice none 0 0, .slice none 0 0])
    have HX4 := Aside0.mk (setRow_heap _ _ _ #[.int .i64 (a1 : Int), .int .i64 (a2 : Int), .slice none 0 0, .slice none 0 0] _ _ (blk_new w3 (.cells zRice 24 (0, 0))))
    have HZ4 := Aside0.mk (blk_below HZ3.out HB4.out)
    have HR4 := Aside0.mk (HR3.out.below HB4.out)
    have HT4 := Aside0.mk (HT3.out.new HB4.out (by omega))
    clear HZ3 HR3 HT3 HB4
    have HCS : Aside0 (∀ W, Calls Try.prog 39 #[.agg #[.int .i64 a1, .int .i64 a2, .slice none 0 0, .slice none 0 0], .int .i64 block, .int .i64 order] W fun e w' => e = .returned (.bool false) ∧ Below W.heap.size W w') := ⟨fun W =>
      rice_shape.calls a1 a2 none 0 [] none 0 [] block order false W ⟨rfl, by decide, fun h => absurd h (Nat.lt_irrefl _)⟩ (Nat.le_refl _) ⟨rfl, by decide, fun h => absurd h (Nat.lt_irrefl _)⟩ (Nat.le_refl _) (by rw [shape_eq a1 a2 [] [] block order (by omega) (by omega), decide_eq_false HSH.out])⟩
    have HXB := Aside0.mk HX4.out
    go_upto_region 6 with ((with_reducible refine wpList_store_row ?_ 24 (.tmp 13) (.tmp 59) ?_ w3.heap.size #[.int .i64 a1, .int .i64 a2, .slice none 0 0, .slice none 0 0] ?_ ?_ 24 zRice (blk_new w3 (.cells zRice 24 (0, 0))) (rc_info _ _ _ _) ?_ (rc_one _ _ _ _ _ _ _ _) ?_); rfl; rfl; rfl; rfl; rfl)
    generalize (w3.alloc (.cells zRice 24 (0, 0))).setRow w3.heap.size #[.int .i64 (a1 : Int), .int .i64 (a2 : Int), .slice none 0 0, .slice none 0 0] = w4 at *
    have c0 := blk_cell HX4.out 0
    have c1 := blk_cell HX4.out 1
    have c2 := blk_cell HX4.out 2
    have c3 := blk_cell HX4.out 3
    go_wp2_with fail
    with_reducible refine (HCS.out _).mono ?_
    rintro e w5 ⟨rfl, hb5⟩
    have HZ5 := Aside0.mk (blk_below HZ4.out hb5)
    have HR5 := Aside0.mk (HR4.out.below hb5)
    have HT5 := Aside0.mk (HT4.out.new hb5 (by have := HR4.out.lt; omega))
    clear hb5 c0 c1 c2 c3 HX4 HXB HZ4 HR4 HT4 HCS
    go_wp2_with (((with_reducible refine wpList_store_row ?_ 24 (.tmp 7) (.tmp 73) ?_ w.heap.size zRice ?_ ?_ 24 zRice HZ5.out (rc_info _ _ _ _) ?_ (rc_one _ _ _ _ _ _ _ _) ?_); rfl; rfl; rfl; rfl; rfl))
    refine bodyPost_ret (results_tct rfl _ _ w.heap.size 24 zRice (0, 0) _ rfl (setRow_heap _ _ _ _ _ _ HZ5.out) Try.underlying24 rfl (rc_info _ _ _ _)) rfl ?_
    exact ⟨rfl, ⟨q2, HR5.out.setRow hb7, hat2⟩, HT5.out.setRow (Nat.le_refl _) (by omega)⟩
end Go.Proofs.Ytfhekkoibmlmpaa.Hand

/- Contracts of layer 8, proved by hand: Decode, words of its loop. -/
namespace Go.Proofs.Ytfhekkoibmlmpaa.Hand
open Go.RowKit Go.Proofs.Ytfhekkoibmlmpaa.Q Go.Proofs.YtfhekkoibmlmpaaW.PrintWords Go.Proofs.YtfhekkoibmlmpaaW.PrintLast Go.Proofs.YtfhekkoibmlmpaaW.PrintMore
set_option linter.unusedVariables false
set_option linter.unusedSimpArgs false

theorem Dis.own {W0 : World} {C : Nat} {u v v0 : Value} {xs : List Int} (h : Dis u v0) (hu : IntsAt W0 C u xs) (ho : v.ownBlock = v0.ownBlock ∨ ∃ k, v.ownBlock = some k ∧ W0.heap.size ≤ k) : Dis u v :=
  (h.symm.grown hu ho).symm
/-- The recipe's rows have grown. -/
theorem DecSt.two {w : World} {B g b7 b13 : Nat} {s : ByteArray} {m O m' O' : Int} {W0 W : World} {q : Nat} {u vP vE vP' vE' : Value} {al ps es ps' es' : List Int} (h : DecSt w B g b7 b13 s m O W0 q u vP vE al ps es) (h7 : b7 ≠ b13) (hg : g ≠ b13) (hB : B ≤ w.heap.size)
    (ht : TwoRows w.heap.size b13 24 W0 vP vE W #[.int .i64 m', .int .i64 O', vP', vE'] vP' vE' ps' es') : DecSt w B g b7 b13 s m' O' W q u vP' vE' al ps' es' := by
  have hne : ∀ {k : Nat} {t : TypeId} {cs : Array Value}, W0.heap[k]? = some (.cells cs t (0, 0)) → t ≠ 3 → k ≠ b13 → ¬ (k = b13 ∨ vP.ownBlock = some k ∨ vE.ownBlock = some k) := by
    intro k t cs hk ht hkb hn
    rcases hn with e | e | e
    · exact hkb e
    · exact (Kd.R_ne h.P.all hk (fun e2 => ht e2.symm)) e.symm
    · exact (Kd.R_ne h.E.all hk (fun e2 => ht e2.symm)) e.symm
  refine ⟨blk_kept h.rd ht.kept (hne h.rd (by decide) hg), ⟨h.tn.below.trans (ht.below.mono hB), h.tn.kept.then_ ht.kept (fun k hk => ?_)⟩, blk_kept h.z7 ht.kept (hne h.z7 (by decide) h7), ht.box, ?_, ht.P, ht.E, h.d1.own h.U ht.oP, h.d2.own h.U ht.oE, ht.dis⟩
  · rcases hk with e | e | e
    · right
      have := ht.hC
      omega
    · exact .inr (h.P.ge k e)
    · exact .inr (h.E.ge k e)
  · refine .of (Kd.R_kept h.U ht.kept (fun k hk hn => ?_))
    rcases hn with e | e | e
    · subst e
      exact (Kd.R_ne h.U.all h.r13 (by decide)) hk.symm
    · exact h.d1 k hk e
    · exact h.d2 k hk e
theorem valsR_length (s : ByteArray) (k esc : Int) : ∀ d acc e p, (valsR s k esc d acc e p).1.length ≤ acc.length + d
  | 0, acc, e, p => by simp [valsR]
  | d + 1, acc, e, p => by
    unfold valsR
    split
    · have := valsR_length s k esc d (acc ++ [(oneR s k esc p).1]) (oneR s k esc p).2.1 (oneR s k esc p).2.2
      rw [List.length_append, List.length_singleton] at this
      omega
    · simp
theorem valsR_at (s : ByteArray) (k esc : Int) : ∀ d acc e p, p ≤ 8 * s.size → (valsR s k esc d acc e p).2.2 ≤ 8 * s.size
  | 0, acc, e, p, hp => by simpa [valsR] using hp
  | d + 1, acc, e, p, hp => by
    unfold valsR
    split
    · exact valsR_at s k esc d _ _ _ (oneR_at s k esc p hp)
    · exact hp
theorem headR_at (s : ByteArray) (p W : Nat) (hp : p ≤ 8 * s.size) : (headR s p W).2.2.2 ≤ 8 * s.size := by
  unfold headR
  split
  · exact getR_at s _ 5 (getR_at s p W hp)
  · exact getR_at s p W hp
theorem partR_at (s : ByteArray) (p n W : Nat) (hp : p ≤ 8 * s.size) : (partR s p n W).2.2.2.2 ≤ 8 * s.size := valsR_at s _ _ _ _ _ _ (headR_at s p W hp)
theorem partR_length (s : ByteArray) (p n W : Nat) : (partR s p n W).1.length ≤ n := by
  have := valsR_length s (headR s p W).1 (headR s p W).2.1 n [] (headR s p W).2.2.1 (headR s p W).2.2.2
  simpa [partR] using this
/-- How Decode ends. -/
def DecPost (s : ByteArray) (m o : Int) (X : Option (List Int × List Int × List Int × Nat)) (C B g : Nat) (w : World) (e : Ending) (w' : World) : Prop :=
  (X = none ∧ e = .returned (.tuple #[.slice none 0 0, .agg zRice, .int .i64 2]) ∧ (∃ q, RAt w' g s q ∧ q ≤ 8 * s.size) ∧ Turned B g w w') ∨
  ∃ al ps es q vl vP vE, X = some (al, ps, es, q) ∧ e = .returned (.tuple #[vl, .agg #[.int .i64 m, .int .i64 o, vP, vE], .int .i64 0]) ∧ IntsAt w' C vl al ∧ IntsAt w' C vP ps ∧ IntsAt w' C vE es ∧ RAt w' g s q ∧ q ≤ 8 * s.size ∧ Turned B g w w'
theorem IntsAt.setRow {w : World} {C b t : Nat} {v : Value} {xs : List Int} {cs0 cs : Array Value} (h : IntsAt w C v xs) (hb : w.heap[b]? = some (.cells cs0 t (0, 0))) (ht : t ≠ 3) : IntsAt (w.setRow b cs) C v xs :=
  h.kept hb ht ⟨by simp [World.setRow], fun i hi hn => setRow_other w b i cs hn⟩
end Go.Proofs.Ytfhekkoibmlmpaa.Hand

/- Contracts of layer 8, proved by hand: Decode, where its head may be (method 0). -/
namespace Go.Proofs.Ytfhekkoibmlmpaa.Hand
open Go.RowKit Go.Proofs.Ytfhekkoibmlmpaa.Q Go.Proofs.YtfhekkoibmlmpaaW.PrintWords Go.Proofs.YtfhekkoibmlmpaaW.PrintLast Go.Proofs.YtfhekkoibmlmpaaW.PrintMore
set_option linter.unusedVariables false
set_option linter.unusedSimpArgs false

set_option maxHeartbeats 16000000 in
set_option maxRecDepth 100000 in
theorem Decode_go0 (s : ByteArray) (hs : s.size ≤ 281474976710656) (p : Nat) (hp : p ≤ 8 * s.size) (Bk Oq n : Nat) (hbad : ¬ badArgs Bk Oq) (B g : Nat) (hB : B ≤ g) (w : World) (hBw : B ≤ w.heap.size) (hR : RAt w g s p)
    (h1 : (getR s p 2).2.1 = 0) (h2 : (getR s (getR s p 2).2.2 4).2.1 = 0) (hm : (getR s p 2).1 = 0) (hsh : shapeP 0 (getR s (getR s p 2).2.2 4).1 Bk Oq) (hn : Bk = 2 ^ (getR s (getR s p 2).2.2 4).1 * n) (hon : Oq ≤ n) :
    Calls Try.prog 21 #[.pointer (some ⟨g, 0, none⟩), .int .i64 Bk, .int .i64 Oq] w
      (DecPost s 0 (getR s (getR s p 2).2.2 4).1 (decL s n Oq 4 (2 ^ (getR s (getR s p 2).2.2 4).1) 0 [] [] [] (getR s (getR s p 2).2.2 4).2.2) w.heap.size B g w) := by
  have hup := Try.underlying45
  obtain ⟨x1, x2, x3, x4, x5⟩ : ¬ (Bk : Int) < 1 ∧ ¬ 65535 < (Bk : Int) ∧ ¬ (Oq : Int) < 0 ∧ ¬ 32 < (Oq : Int) ∧ ¬ (Bk : Int) < (Oq : Int) := by unfold badArgs at hbad; omega
  have hgl := hR.lt
  have hbel : Below w.heap.size w (w.alloc (.cells zRice 24)) := below_alloc (Below.refl _ _) _
  have HG1 := Aside0.mk (Get_any s hs p hp 2 B g hB (w.alloc (.cells zRice 24)) (hR.below hbel))
  have hat1 := getR_at s p 2 hp
  have hl1 : (getR s p 2).1 < 4 := getR_small s p 2
  have HG2 : Aside0 (∀ W, RAt W g s (getR s p 2).2.2 → Calls Try.prog 41 #[.pointer (some ⟨g, 0, none⟩), .int .i64 4] W fun e w' => e = .returned (.tuple #[.int .u64 (getR s (getR s p 2).2.2 4).1, .int .i64 (getR s (getR s p 2).2.2 4).2.1]) ∧ RAt w' g s (getR s (getR s p 2).2.2 4).2.2 ∧ Turned B g W w') := ⟨fun W h => Get_any s hs _ hat1 4 B g hB W h⟩
  have hat2 := getR_at s (getR s p 2).2.2 4 hat1
  have hl2 : (getR s (getR s p 2).2.2 4).1 < 16 := getR_small s _ 4
  have HT0 := Aside0.mk ((Turned.refl B g w).new hbel (by omega))
  have HZ0 := Aside0.mk (blk_new w (.cells zRice 24 (0, 0)))
  have hb7 : w.heap.size ≠ g := by omega
  have HS := Aside0.mk hs
  clear hbad hR hbel hs
  generalize getR s (getR s p 2).2.2 4 = gr2 at h2 hsh hn HG2 hat2 hl2 ⊢
  generalize getR s p 2 = gr1 at h1 hm HG1 HG2 hat1 hl1 ⊢
  obtain ⟨a1, e1, q1⟩ := gr1
  obtain ⟨a2, e2, q2⟩ := gr2
  simp only at h1 h2 hm hsh hn HG1 HG2 hat1 hat2 hl1 hl2 ⊢
  subst h1
  subst h2
  subst hm
  obtain ⟨X, hX⟩ : ∃ X, decL s n Oq 4 (2 ^ a2) 0 [] [] [] q2 = X := ⟨_, rfl⟩
  rw [hX]
  have HX := Aside0.mk hX
  have hN2 : 2 ^ a2 ≤ 2 ^ 15 := Nat.pow_le_pow_right (by decide) (by omega)
  have hNp : 0 < 2 ^ a2 := Nat.two_pow_pos a2
  have hsl : (1 : Int) * 2 ^ min ((a2 : Int)).toNat 64 = ((2 ^ a2 : Nat) : Int) := by
    rw [Int.toNat_natCast, Nat.min_eq_left (by omega), Int.one_mul]
    simp
  have hdv : Bk / 2 ^ a2 = n := by rw [hn]; exact Nat.mul_div_cancel_left n hNp
  have hsr : (Bk : Int) / 2 ^ min ((a2 : Int)).toNat 64 = (n : Int) := by rw [shr_small Bk a2 (by omega), hdv]
  have HCS : Aside0 (∀ W, Calls Try.prog 39 #[.agg #[.int .i64 0, .int .i64 a2, .slice none 0 0, .slice none 0 0], .int .i64 Bk, .int .i64 Oq] W fun e w' => e = .returned (.bool true) ∧ Below W.heap.size W w') := ⟨fun W =>
    rice_shape.calls 0 a2 none 0 [] none 0 [] Bk Oq true W ⟨rfl, by decide, fun h => absurd h (Nat.lt_irrefl _)⟩ (Nat.le_refl _) ⟨rfl, by decide, fun h => absurd h (Nat.lt_irrefl _)⟩ (Nat.le_refl _) (by rw [shape_eq 0 a2 [] [] Bk Oq (by omega) (by omega), decide_eq_true hsh])⟩
  have HNn : Aside0 (2 ^ a2 * n ≤ 65535) := ⟨by rw [← hn]; omega⟩
  have hn6 : n ≤ 65535 := by
    have := HNn.out
    have h3 : 1 * n ≤ 2 ^ a2 * n := Nat.mul_le_mul_right n hNp
    omega
  obtain ⟨N, hN⟩ : ∃ N, 2 ^ a2 = N := ⟨_, rfl⟩
  rw [hN] at HX hN2 hNp hsl HNn
  clear hX hn hsh hdv hN
  obtain ⟨oI, ho⟩ : ∃ oI : Int, (a2 : Int) = oI := ⟨_, rfl⟩
  have o0 : 0 ≤ oI := by omega
  have o1 : oI ≤ 64 := by omega
  have o2 : oI.toNat = a2 := by omega
  rw [ho] at hsl hsr HG2 HCS ⊢
  have HO := Aside0.mk ho
  clear ho o2 hl2
  have hj9 : IntKind.i64.wrap (1 * 2 ^ min oI.toNat 64) = (N : Int) := by rw [hsl, IntKind.wrap_i64]; omega
  have hmin : min oI.toNat 64 = oI.toNat := Nat.min_eq_left (by omega)
  have hj0 : IntKind.i64.wrap (1 * 2 ^ oI.toNat) = (N : Int) := by rw [hmin] at hj9; exact hj9
  have hj1 : IntKind.i64.wrap (2 ^ min oI.toNat 64) = (N : Int) := by rw [Int.one_mul] at hj9; exact hj9
  have hj2 : IntKind.i64.wrap (2 ^ oI.toNat) = (N : Int) := by rw [Int.one_mul] at hj0; exact hj0
  have hj3 : wrap64 (1 * 2 ^ min oI.toNat 64) = (N : Int) := by rw [hsl]; unfold wrap64; omega
  have hj4 : wrap64 (2 ^ min oI.toNat 64) = (N : Int) := by rw [Int.one_mul] at hj3; exact hj3
  have hr0 : (Bk : Int) / 2 ^ oI.toNat = (n : Int) := by rw [hmin] at hsr; exact hsr
  have HJ := Aside0.mk (And.intro hj9 (And.intro hj0 (And.intro hj1 (And.intro hj2 (And.intro hj3 hj4)))))
  have HRR := Aside0.mk (And.intro hsr hr0)
  clear hsl hmin hj9 hj0 hj1 hj2 hj3 hj4 hsr hr0
  go_enter Try.func21, Try.ntmps21
  go_wp2_with fail
  with_reducible refine HG1.out.mono ?_
  rintro e w2 ⟨rfl, hr2, ht2⟩
  have HR2 := Aside0.mk hr2
  have HT2 := Aside0.mk (HT0.out.trans ht2)
  have HZ2 := Aside0.mk (blk_kept HZ0.out ht2.kept (fun h => hb7 h))
  clear hr2 ht2 HG1 HT0 HZ0
  go_wp2_with fail
  with_reducible refine (HG2.out w2 HR2.out).mono ?_
  rintro e w3 ⟨rfl, hr3, ht3⟩
  have HR3 := Aside0.mk hr3
  have HT3 := Aside0.mk (HT2.out.trans ht3)
  have HZ3 := Aside0.mk (blk_kept HZ2.out ht3.kept (fun h => hb7 h))
  have hg3 := hr3.lt
  have hsz3 := HT3.out.kept.1
  clear hr3 ht3 HG2 HT2 HZ2 HR2
  have HB4 := Aside0.mk (below_setRow (below_alloc (Below.refl w3.heap.size w3) (.cells zRice 24 (0, 0))) (Nat.le_refl _) #[.int .i64 0, .int .i64 oI, .slice none 0 0, .slice none 0 0])
  have HX4 := Aside0.mk (setRow_heap _ _ _ #[.int .i64 0, .int .i64 oI, .slice none 0 0, .slice none 0 0] _ _ (blk_new w3 (.cells zRice 24 (0, 0))))
  have HZ4 := Aside0.mk (blk_below HZ3.out HB4.out)
  have HR4 := Aside0.mk (HR3.out.below HB4.out)
  have HT4 := Aside0.mk (HT3.out.new HB4.out (by omega))
  have h713 : w.heap.size ≠ w3.heap.size := by have := blk_lt HZ3.out; omega
  clear HZ3 HR3 HT3
  go_upto_region 6 with ((with_reducible refine wpList_store_row ?_ 24 (.tmp 13) (.tmp 59) ?_ w3.heap.size #[.int .i64 0, .int .i64 oI, .slice none 0 0, .slice none 0 0] ?_ ?_ 24 zRice (blk_new w3 (.cells zRice 24 (0, 0))) (rc_info _ _ _ _) ?_ (rc_one _ _ _ _ _ _ _ _) ?_); rfl; rfl; rfl; rfl; rfl)
  have hsz4 := HB4.out.size
  generalize (w3.alloc (.cells zRice 24 (0, 0))).setRow w3.heap.size #[.int .i64 0, .int .i64 oI, .slice none 0 0, .slice none 0 0] = w4 at *
  have hB13 : w.heap.size ≤ w3.heap.size := hsz3
  have hg13 : g ≠ w3.heap.size := by omega
  clear hsz3 hg3 HB4
  generalize w3.heap.size = b13 at *
  have c0 := blk_cell HX4.out 0
  have c1 := blk_cell HX4.out 1
  have c2 := blk_cell HX4.out 2
  have c3 := blk_cell HX4.out 3
  go_wp2_with fail
  with_reducible refine (HCS.out _).mono ?_
  rintro e w5 ⟨rfl, hb5⟩
  have hst : DecSt w B g w.heap.size b13 s 0 oI w5 q2 (.slice none 0 0) (.slice none 0 0) (.slice none 0 0) [] [] [] :=
    ⟨HR4.out.below hb5, HT4.out.new hb5 (by have := HR4.out.lt; omega), blk_below HZ4.out hb5, blk_below HX4.out hb5, IntsAt.nil _ _, IntsAt.nil _ _, IntsAt.nil _ _, Dis.nil_left _, Dis.nil_left _, Dis.nil_left _⟩
  have HST := Aside0.mk hst
  clear hb5 c0 c1 c2 c3 HX4 HZ4 HR4 HT4 HCS hst
  have d1 := blk_cell HST.out.r13 1
  obtain ⟨hj9, hj0, hj1, hj2, hj3, hj4⟩ := HJ.out
  go_wp2
  clear hj9 hj0 hj1 hj2 hj3 hj4
  go_loopw [14, 77] (fun uv iv wr => ∃ (i : Nat) (vP vE : Value) (al ps es : List Int) (q : Nat), i ≤ N ∧ iv = .int .i64 i ∧ q ≤ 8 * s.size ∧ al.length ≤ i * n ∧ ps.length = i ∧ es.length = i ∧ Aside0 (DecSt w B g w.heap.size b13 s 0 oI wr q uv vP vE al ps es) ∧ Aside0 (decL s n Oq 4 (N - i) i al ps es q = X)) (fun _ iv _ => N - (intOf iv).toNat)
  case atStart => exact ⟨0, .slice none 0 0, .slice none 0 0, [], [], [], q2, Nat.zero_le _, rfl, hat2, Nat.zero_le _, rfl, rfl, HST, ⟨by rw [Nat.sub_zero]; exact HX.out⟩⟩
  case round =>
    clear HST d1 HX
    obtain ⟨i, vP, vE, al, ps, es, q, hi, rfl, hq, hal, hps, hes, HST, HX⟩ := hrel
    have HPS := Aside0.mk hps
    have HES := Aside0.mk hes
    by_cases hlt : i < N
    · have i0 : (0 : Int) ≤ (i : Int) := by omega
      have i1 : (i : Int) < (N : Int) := by omega
      obtain ⟨d, hd⟩ : ∃ d, N - i = d + 1 := ⟨N - i - 1, by omega⟩
      have hd2 : N - (i + 1) = d := by omega
      have hmul : (i + 1) * n = i * n + n := Nat.succ_mul i n
      have hle : (i + 1) * n ≤ N * n := Nat.mul_le_mul_right n (by omega)
      have HLE := Aside0.mk (Nat.le_trans hle HNn.out)
      obtain ⟨k, hk⟩ : ∃ k, (if i = 0 then n - Oq else n) = k := ⟨_, rfl⟩
      have hkn : k ≤ n := by rw [← hk]; split <;> omega
      have HPART := Aside0.mk (partition_any4 s HS.out q hq k (by omega) B g hB wr HST.out.rd)
      have hpat := partR_at s q k 4 hq
      have hplen := partR_length s q k 4
      have HX2 : Aside0 ((if (partR s q k 4).2.2.2.1 = 0 then decL s n Oq 4 d (i + 1) (al ++ (partR s q k 4).1) (ps ++ [(partR s q k 4).2.1]) (es ++ [(partR s q k 4).2.2.1]) (partR s q k 4).2.2.2.2 else none) = X) := ⟨by
        have := HX.out
        rw [hd] at this
        unfold decL at this
        rw [hk] at this
        exact this⟩
      have hal2 : al.length + k ≤ 65535 := by have := HLE.out; omega
      have hal3 : al.length + k ≤ (i + 1) * n := by omega
      have HAL := Aside0.mk hal3
      have HD := Aside0.mk hd2
      clear HX hd hd2 hmul hle hal3 hal hps hes
      generalize partR s q k 4 = pr at HPART hpat hplen HX2
      obtain ⟨L, kk, ee, er, q9⟩ := pr
      simp only at HPART hpat hplen HX2
      have c0 := blk_cell HST.out.r13 0
      have c1 := blk_cell HST.out.r13 1
      have hk2 : ((i = 0 ∧ (n : Int) - (Oq : Int) = (k : Int)) ∨ (¬ (i : Int) = 0 ∧ (k : Int) = (n : Int))) := by
        by_cases h0 : i = 0
        · left
          rw [if_pos h0] at hk
          exact ⟨h0, by omega⟩
        · right
          rw [if_neg h0] at hk
          exact ⟨by omega, by omega⟩
      have HK := Aside0.mk hk
      clear hk
      rcases hk2 with ⟨hi0, hk2⟩ | ⟨hi0, hk2⟩
      · skip
        have hne : ((i : Int) == 0) = true := beq_iff_eq.mpr (by omega)
        clear hi0 HK
        obtain ⟨hsr, hr0⟩ := HRR.out
        go_wp2_with fail
        clear hsr hr0
        with_reducible refine HPART.out.mono ?_
        rintro e w6 ⟨v6, rfl, hl6, hr6, ht6⟩
        have hst6 := HST.out.turn hr6 ht6 hb7 (fun h => hg13 h.symm)
        have HL6 := Aside0.mk hl6
        have HST6 := Aside0.mk hst6
        have hsz6 := ht6.kept.1
        clear hl6 hr6 ht6 hst6 HPART c0 c1
        cases her : er == 0 with
        | false =>
          have HXN : Aside0 (X = none) := ⟨by have := HX2.out; rw [if_neg (by simpa using her)] at this; exact this.symm⟩
          go_wp2_with ((with_reducible refine wpList_store_row ?_ 24 (.tmp 7) (.tmp 102) ?_ w.heap.size zRice ?_ ?_ 24 zRice HST6.out.z7 (rc_info _ _ _ _) ?_ (rc_one _ _ _ _ _ _ _ _) ?_); rfl; rfl; rfl; rfl; rfl)
          refine bodyPost_ret (results_tct rfl _ _ w.heap.size 24 zRice (0, 0) _ rfl (setRow_heap _ _ _ _ _ _ HST6.out.z7) Try.underlying24 rfl (rc_info _ _ _ _)) rfl ?_
          exact .inl ⟨HXN.out, rfl, ⟨q9, HST6.out.rd.setRow hb7, hpat⟩, HST6.out.tn.setRow (Nat.le_refl _) hBw⟩
        | true =>
          have her2 : er = 0 := by simpa using her
          have HX3 : Aside0 (decL s n Oq 4 d (i + 1) (al ++ L) (ps ++ [kk]) (es ++ [ee]) q9 = X) := ⟨by have := HX2.out; rw [if_pos her2] at this; exact this⟩
          clear HX2 her2
          obtain ⟨A6, c6, e6, hc6, hC6⟩ := HL6.out.C
          subst e6
          have HC6 := Aside0.mk hC6
          have hCw6 : w.heap.size ≤ w6.heap.size := HST6.out.tn.kept.1
          clear hC6
          go_wp2_with (at_builtin; (with_reducible refine app_intlist (w0 := w6) (C := w.heap.size) (v := u14) (xs := al) (ys := L) (A := A6) (c := c6) (.tmp 103) (.tmp 104) ?_ ?_ ?_ ?_ ?_ ?_ ?_ ?_ ?_ ?_); rfl; rfl; rfl; rfl; exact HST6.out.U; exact HC6.out; exact Below.refl _ _; exact hCw6; omega; intro v7 w7 HI7 HB7 HG7 HO7)
          have HST7 := Aside0.mk (HST6.out.all hBw HI7.out HG7.out HO7.out)
          clear HI7 HB7 HG7 HO7 HST6 HC6 HL6
          have hst8 := HST7.out.below hB (below_drew (Below.refl w7.heap.size w7))
          have HST8 := Aside0.mk hst8
          have hst := TwoRows.start hst8.r13 (by decide) hst8.P hst8.E hst8.d3 hB13
          have hpl : ps.length ≤ 65536 := by have := HPS.out; omega
          have hel : es.length ≤ 65536 := by have := HES.out; omega
          clear hst8 HST7
          refine start_ (n := 14) (S := fun w' => w'.cell? ⟨b13, 2, none⟩ = some (vP) ∧ w'.cell? ⟨b13, 3, none⟩ = some (vE)) (ds := [11, 13]) #[false, false, false, false, false, false, false, false, false, false, false, false, false, false] (by kernel_rfl) rfl rfl ⟨blk_cell hst.box 2, blk_cell hst.box 3⟩ (fun hHeld => ?_)
          refine pure_ (i := 0) (N := some 106) (v := ?_) (a' := ?_) #[true, false, false, false, false, false, false, false, false, false, false, false, false, false] rfl rfl (by kernel_rfl) (fun _ _ _ h => h) (Or.inl ⟨by rfl, ?_⟩) ?_ ?_
          rotate_left
          · intro w'
            go_simp
            with_reducible rfl
          rotate_left
          · simp only [Act.put, List.setIfInBounds_toArray, List.set_cons_zero, List.set_cons_succ, i64_w, i32_w]
            rfl
          refine pure_ (i := 2) (N := some 108) (v := ?_) (a' := ?_) #[true, false, true, false, false, false, false, false, false, false, false, false, false, false] rfl rfl (by kernel_rfl) (fun _ _ _ h => h) (Or.inl ⟨by rfl, ?_⟩) ?_ ?_
          rotate_left
          · intro w'
            go_simp
            with_reducible rfl
          rotate_left
          · simp only [Act.put, List.setIfInBounds_toArray, List.set_cons_zero, List.set_cons_succ, i64_w, i32_w]
            rfl
          refine pure_ (i := 5) (N := some 111) (v := ?_) (a' := ?_) #[true, false, true, false, false, true, false, false, false, false, false, false, false, false] rfl rfl (by kernel_rfl) (fun _ _ _ h => h) (Or.inl ⟨by rfl, ?_⟩) ?_ ?_
          rotate_left
          · intro w'
            go_simp
            with_reducible rfl
          rotate_left
          · simp only [Act.put, List.setIfInBounds_toArray, List.set_cons_zero, List.set_cons_succ, i64_w, i32_w]
            rfl
          refine pure_ (i := 7) (N := some 113) (v := ?_) (a' := ?_) #[true, false, true, false, false, true, false, true, false, false, false, false, false, false] rfl rfl (by kernel_rfl) (fun _ _ _ h => h) (Or.inl ⟨by rfl, ?_⟩) ?_ ?_
          rotate_left
          · intro w'
            go_simp
            with_reducible rfl
          rotate_left
          · simp only [Act.put, List.setIfInBounds_toArray, List.set_cons_zero, List.set_cons_succ, i64_w, i32_w]
            rfl
          refine take_ (i := 1) (N := some 107) (v := ?_) (a' := ?_) #[true, true, true, false, false, true, false, true, false, false, false, false, false, false] rfl rfl (by kernel_rfl) (fun _ _ _ h => h) (Or.inl ⟨by rfl, ?_⟩) hHeld ?_ ?_
          rotate_left
          · rintro w' ⟨s0, s1⟩
            go_simp
            with_reducible rfl
          rotate_left
          · simp only [Act.put, List.setIfInBounds_toArray, List.set_cons_zero, List.set_cons_succ, i64_w, i32_w]
            rfl
          refine take_ (i := 6) (N := some 112) (v := ?_) (a' := ?_) #[true, true, true, false, false, true, true, true, false, false, false, false, false, false] rfl rfl (by kernel_rfl) (fun _ _ _ h => h) (Or.inl ⟨by rfl, ?_⟩) hHeld ?_ ?_
          rotate_left
          · rintro w' ⟨s0, s1⟩
            go_simp
            with_reducible rfl
          rotate_left
          · simp only [Act.put, List.setIfInBounds_toArray, List.set_cons_zero, List.set_cons_succ, i64_w, i32_w]
            rfl
          refine join_ (σ := Nat × Value × Nat) 4 #[true, true, true, true, true, true, true, true, true, false, true, false, false, false] (fun s_ => [(109, .slice (some ⟨s_.1, 0, none⟩) 1 1), (110, s_.2.1), (114, .slice (some ⟨s_.2.2, 0, none⟩) 1 1), (116, .pointer (some ⟨b13, 2, none⟩))]) (fun s_ w' => (w'.cell? ⟨b13, 2, none⟩ = some (vP) ∧ w'.cell? ⟨b13, 3, none⟩ = some (vE)) ∧ TwoRows w.heap.size b13 24 w7.drew (vP) (vE) w' #[.int .i64 0, .int .i64 oI, vP, vE] s_.2.1 (vE) (ps ++ [kk]) (es) ∧ w'.heap[s_.2.2]? = some (.cells #[.int .i64 (ee)] 3 (0, 0))) ?_ ?_
          rotate_left
          · intro hCont
            refine two_ (i := 3) (j := 8) (Ni := some 109) (Nj := some 114) #[true, true, true, true, false, true, true, true, false, false, false, false, false, false] #[true, true, true, false, false, true, true, true, true, false, false, false, false, false] rfl rfl rfl rfl (by kernel_rfl) (by decide) (by decide) (fun K hK => ?_) (fun K hK => ?_)
            · skip
              refine value_ (w1 := ?_) (v := ?_) (by rfl) rfl ?_ ?_
              rotate_left 2
              · go_simp
                constructor
                · rfl
                · rfl
              have hb1 : (w7.drew.alloc (.cells #[.int .i64 (kk)] 3 (0, 0))).heap[w7.heap.size]? = some (.cells #[.int .i64 (kk)] 3 (0, 0)) := by simpa using blk_new w7.drew (.cells #[.int .i64 (kk)] 3 (0, 0))
              have hs9 := hst.new (below_alloc (Below.refl _ _) (.cells #[.int .i64 (kk)] 3 (0, 0)))
              clear hst
              have hst := hs9
              clear hs9
              refine hK.out _ _ ⟨blk_cell hst.box 2, blk_cell hst.box 3⟩ (fun hHeld => ?_)
              clear hK K
              refine norm_ (a' := ?_) ?_ ?_
              rotate_left
              · show Act.put _ (some 109) _ = _
                simp only [Act.put, List.setIfInBounds_toArray, List.set_cons_zero, List.set_cons_succ, i64_w, i32_w]
                rfl
              refine two_ (i := 4) (j := 8) (Ni := some 110) (Nj := some 114) #[true, true, true, true, true, true, true, true, false, false, false, false, false, false] #[true, true, true, true, false, true, true, true, true, false, false, false, false, false] rfl rfl rfl rfl (by kernel_rfl) (by decide) (by decide) (fun K hK => ?_) (fun K hK => ?_)
              · skip
                refine app_lit_step (C := w.heap.size) (.tmp 107) (.tmp 109) (v := vP) (xs := ps) (kk) ?_ ?_ ?_ ?_ hst.P hb1 hst.le (by omega) ?_
                · rfl
                · rfl
                · rfl
                · rfl
                intro v1 w1 hr1 hg1 ho1
                have hs9 := hst.growP hr1 hg1 ho1
                clear hr1 hg1 ho1 hst hb1
                have hst := hs9
                clear hs9
                refine hK.out _ _ ⟨blk_cell hst.box 2, blk_cell hst.box 3⟩ (fun hHeld => ?_)
                clear hK K
                refine norm_ (a' := ?_) ?_ ?_
                rotate_left
                · show Act.put _ (some 110) _ = _
                  simp only [Act.put, List.setIfInBounds_toArray, List.set_cons_zero, List.set_cons_succ, i64_w, i32_w]
                  rfl
                refine pure_ (i := 10) (N := some 116) (v := ?_) (a' := ?_) #[true, true, true, true, true, true, true, true, false, false, true, false, false, false] rfl rfl (by kernel_rfl) (fun _ _ _ h => h) (Or.inl ⟨by rfl, ?_⟩) ?_ ?_
                rotate_left
                · intro w'
                  go_simp
                  with_reducible rfl
                rotate_left
                · simp only [Act.put, List.setIfInBounds_toArray, List.set_cons_zero, List.set_cons_succ, i64_w, i32_w]
                  rfl
                refine one_ (i := 8) (N := some 114) #[true, true, true, true, true, true, true, true, true, false, true, false, false, false] rfl rfl (by kernel_rfl) (by decide) (fun K hK => ?_)
                refine value_ (w1 := ?_) (v := ?_) (by rfl) rfl ?_ ?_
                rotate_left 2
                · go_simp
                  constructor
                  · rfl
                  · rfl
                have hb2 : (w1.alloc (.cells #[.int .i64 (ee)] 3 (0, 0))).heap[w1.heap.size]? = some (.cells #[.int .i64 (ee)] 3 (0, 0)) := by simpa using blk_new w1 (.cells #[.int .i64 (ee)] 3 (0, 0))
                have hs9 := hst.new (below_alloc (Below.refl _ _) (.cells #[.int .i64 (ee)] 3 (0, 0)))
                clear hst
                have hst := hs9
                clear hs9
                refine hK.out _ _ ⟨blk_cell hst.box 2, blk_cell hst.box 3⟩ (fun hHeld => ?_)
                clear hK K
                refine norm_ (a' := ?_) ?_ ?_
                rotate_left
                · show Act.put _ (some 114) _ = _
                  simp only [Act.put, List.setIfInBounds_toArray, List.set_cons_zero, List.set_cons_succ, i64_w, i32_w]
                  rfl
                exact norm_ (by simp only [putAll, Act.put, List.setIfInBounds_toArray, List.set_cons_zero, List.set_cons_succ]) (hCont (⟨w7.heap.size, v1, w1.heap.size⟩ : Nat × Value × Nat) _ ⟨⟨blk_cell hst.box 2, blk_cell hst.box 3⟩, hst, hb2⟩)
              · skip
                refine value_ (w1 := ?_) (v := ?_) (by rfl) rfl ?_ ?_
                rotate_left 2
                · go_simp
                  constructor
                  · rfl
                  · rfl
                have hb2 : ((w7.drew.alloc (.cells #[.int .i64 (kk)] 3 (0, 0))).alloc (.cells #[.int .i64 (ee)] 3 (0, 0))).heap[w7.heap.size + 1]? = some (.cells #[.int .i64 (ee)] 3 (0, 0)) := by simpa using blk_new (w7.drew.alloc (.cells #[.int .i64 (kk)] 3 (0, 0))) (.cells #[.int .i64 (ee)] 3 (0, 0))
                have hd2 : ∀ j, (vP).ownBlock = some j → j ≠ w7.heap.size + 1 := fun j hj => Nat.ne_of_lt (by have h9 := hst.P.lt j hj; simp at h9; omega)
                have hb1' : ((w7.drew.alloc (.cells #[.int .i64 (kk)] 3 (0, 0))).alloc (.cells #[.int .i64 (ee)] 3 (0, 0))).heap[_]? = some _ := blk_alloc hb1 (.cells #[.int .i64 (ee)] 3 (0, 0))
                clear hb1
                have hb1 := hb1'
                clear hb1'
                have hs9 := hst.new (below_alloc (Below.refl _ _) (.cells #[.int .i64 (ee)] 3 (0, 0)))
                clear hst
                have hst := hs9
                clear hs9
                refine hK.out _ _ ⟨blk_cell hst.box 2, blk_cell hst.box 3⟩ (fun hHeld => ?_)
                clear hK K
                refine norm_ (a' := ?_) ?_ ?_
                rotate_left
                · show Act.put _ (some 114) _ = _
                  simp only [Act.put, List.setIfInBounds_toArray, List.set_cons_zero, List.set_cons_succ, i64_w, i32_w]
                  rfl
                refine one_ (i := 4) (N := some 110) #[true, true, true, true, true, true, true, true, true, false, false, false, false, false] rfl rfl (by kernel_rfl) (by decide) (fun K hK => ?_)
                refine app_lit_step (C := w.heap.size) (.tmp 107) (.tmp 109) (v := vP) (xs := ps) (kk) ?_ ?_ ?_ ?_ hst.P hb1 hst.le (by omega) ?_
                · rfl
                · rfl
                · rfl
                · rfl
                intro v1 w1 hr1 hg1 ho1
                have hb2' := lit_kept hb2 hd2 hg1
                clear hb2 hd2
                have hb2 := hb2'
                clear hb2'
                have hs9 := hst.growP hr1 hg1 ho1
                clear hr1 hg1 ho1 hst hb1
                have hst := hs9
                clear hs9
                refine hK.out _ _ ⟨blk_cell hst.box 2, blk_cell hst.box 3⟩ (fun hHeld => ?_)
                clear hK K
                refine norm_ (a' := ?_) ?_ ?_
                rotate_left
                · show Act.put _ (some 110) _ = _
                  simp only [Act.put, List.setIfInBounds_toArray, List.set_cons_zero, List.set_cons_succ, i64_w, i32_w]
                  rfl
                refine pure_ (i := 10) (N := some 116) (v := ?_) (a' := ?_) #[true, true, true, true, true, true, true, true, true, false, true, false, false, false] rfl rfl (by kernel_rfl) (fun _ _ _ h => h) (Or.inl ⟨by rfl, ?_⟩) ?_ ?_
                rotate_left
                · intro w'
                  go_simp
                  with_reducible rfl
                rotate_left
                · simp only [Act.put, List.setIfInBounds_toArray, List.set_cons_zero, List.set_cons_succ, i64_w, i32_w]
                  rfl
                exact norm_ (by simp only [putAll, Act.put, List.setIfInBounds_toArray, List.set_cons_zero, List.set_cons_succ]) (hCont (⟨w7.heap.size, v1, w7.heap.size + 1⟩ : Nat × Value × Nat) _ ⟨⟨blk_cell hst.box 2, blk_cell hst.box 3⟩, hst, hb2⟩)
            · skip
              refine value_ (w1 := ?_) (v := ?_) (by rfl) rfl ?_ ?_
              rotate_left 2
              · go_simp
                constructor
                · rfl
                · rfl
              have hb2 : (w7.drew.alloc (.cells #[.int .i64 (ee)] 3 (0, 0))).heap[w7.heap.size]? = some (.cells #[.int .i64 (ee)] 3 (0, 0)) := by simpa using blk_new w7.drew (.cells #[.int .i64 (ee)] 3 (0, 0))
              have hd2 : ∀ j, (vP).ownBlock = some j → j ≠ w7.heap.size := fun j hj => Nat.ne_of_lt (by have h9 := hst.P.lt j hj; simp at h9; omega)
              have hs9 := hst.new (below_alloc (Below.refl _ _) (.cells #[.int .i64 (ee)] 3 (0, 0)))
              clear hst
              have hst := hs9
              clear hs9
              refine hK.out _ _ ⟨blk_cell hst.box 2, blk_cell hst.box 3⟩ (fun hHeld => ?_)
              clear hK K
              refine norm_ (a' := ?_) ?_ ?_
              rotate_left
              · show Act.put _ (some 114) _ = _
                simp only [Act.put, List.setIfInBounds_toArray, List.set_cons_zero, List.set_cons_succ, i64_w, i32_w]
                rfl
              refine one_ (i := 3) (N := some 109) #[true, true, true, true, false, true, true, true, true, false, false, false, false, false] rfl rfl (by kernel_rfl) (by decide) (fun K hK => ?_)
              refine value_ (w1 := ?_) (v := ?_) (by rfl) rfl ?_ ?_
              rotate_left 2
              · go_simp
                constructor
                · rfl
                · rfl
              have hb1 : ((w7.drew.alloc (.cells #[.int .i64 (ee)] 3 (0, 0))).alloc (.cells #[.int .i64 (kk)] 3 (0, 0))).heap[w7.heap.size + 1]? = some (.cells #[.int .i64 (kk)] 3 (0, 0)) := by simpa using blk_new (w7.drew.alloc (.cells #[.int .i64 (ee)] 3 (0, 0))) (.cells #[.int .i64 (kk)] 3 (0, 0))
              have hb2' : ((w7.drew.alloc (.cells #[.int .i64 (ee)] 3 (0, 0))).alloc (.cells #[.int .i64 (kk)] 3 (0, 0))).heap[_]? = some _ := blk_alloc hb2 (.cells #[.int .i64 (kk)] 3 (0, 0))
              clear hb2
              have hb2 := hb2'
              clear hb2'
              have hs9 := hst.new (below_alloc (Below.refl _ _) (.cells #[.int .i64 (kk)] 3 (0, 0)))
              clear hst
              have hst := hs9
              clear hs9
              refine hK.out _ _ ⟨blk_cell hst.box 2, blk_cell hst.box 3⟩ (fun hHeld => ?_)
              clear hK K
              refine norm_ (a' := ?_) ?_ ?_
              rotate_left
              · show Act.put _ (some 109) _ = _
                simp only [Act.put, List.setIfInBounds_toArray, List.set_cons_zero, List.set_cons_succ, i64_w, i32_w]
                rfl
              refine one_ (i := 4) (N := some 110) #[true, true, true, true, true, true, true, true, true, false, false, false, false, false] rfl rfl (by kernel_rfl) (by decide) (fun K hK => ?_)
              refine app_lit_step (C := w.heap.size) (.tmp 107) (.tmp 109) (v := vP) (xs := ps) (kk) ?_ ?_ ?_ ?_ hst.P hb1 hst.le (by omega) ?_
              · rfl
              · rfl
              · rfl
              · rfl
              intro v1 w1 hr1 hg1 ho1
              have hb2' := lit_kept hb2 hd2 hg1
              clear hb2 hd2
              have hb2 := hb2'
              clear hb2'
              have hs9 := hst.growP hr1 hg1 ho1
              clear hr1 hg1 ho1 hst hb1
              have hst := hs9
              clear hs9
              refine hK.out _ _ ⟨blk_cell hst.box 2, blk_cell hst.box 3⟩ (fun hHeld => ?_)
              clear hK K
              refine norm_ (a' := ?_) ?_ ?_
              rotate_left
              · show Act.put _ (some 110) _ = _
                simp only [Act.put, List.setIfInBounds_toArray, List.set_cons_zero, List.set_cons_succ, i64_w, i32_w]
                rfl
              refine pure_ (i := 10) (N := some 116) (v := ?_) (a' := ?_) #[true, true, true, true, true, true, true, true, true, false, true, false, false, false] rfl rfl (by kernel_rfl) (fun _ _ _ h => h) (Or.inl ⟨by rfl, ?_⟩) ?_ ?_
              rotate_left
              · intro w'
                go_simp
                with_reducible rfl
              rotate_left
              · simp only [Act.put, List.setIfInBounds_toArray, List.set_cons_zero, List.set_cons_succ, i64_w, i32_w]
                rfl
              exact norm_ (by simp only [putAll, Act.put, List.setIfInBounds_toArray, List.set_cons_zero, List.set_cons_succ]) (hCont (⟨w7.heap.size + 1, v1, w7.heap.size⟩ : Nat × Value × Nat) _ ⟨⟨blk_cell hst.box 2, blk_cell hst.box 3⟩, hst, hb2⟩)
          rintro ⟨b1, v1, b2⟩ w5 ⟨hHeld, hst, hb2⟩
          refine norm_ (a' := ?_) ?_ ?_
          rotate_left
          · simp only [putAll, Act.put, List.setIfInBounds_toArray, List.set_cons_zero, List.set_cons_succ]
            rfl
          refine one_ (i := 9) (N := some 115) #[true, true, true, true, true, true, true, true, true, true, true, false, false, false] rfl rfl (by kernel_rfl) (by decide) (fun K hK => ?_)
          refine app_lit_step (C := w.heap.size) (.tmp 112) (.tmp 114) (v := vE) (xs := es) (ee) ?_ ?_ ?_ ?_ hst.E hb2 hst.le (by omega) ?_
          · rfl
          · rfl
          · rfl
          · rfl
          intro v2 w6 hr2 hg2 ho2
          have hs9 := hst.growE hr2 hg2 ho2
          clear hr2 hg2 ho2 hst hb2
          have hst := hs9
          clear hs9
          obtain ⟨A1_, n1_, c1_, e1_⟩ := hst.P.shape
          subst e1_
          obtain ⟨A2_, n2_, c2_, e2_⟩ := hst.E.shape
          subst e2_
          have cP_ := blk_cell hst.box 2
          have cE_ := blk_cell hst.box 3
          have fP_ := blk_frozen hst.box 2
          have fE_ := blk_frozen hst.box 3
          refine hK.out _ _ ⟨blk_cell hst.box 2, blk_cell hst.box 3⟩ (fun hHeld => ?_)
          clear hK K
          refine norm_ (a' := ?_) ?_ ?_
          rotate_left
          · show Act.put _ (some 115) _ = _
            simp only [Act.put, List.setIfInBounds_toArray, List.set_cons_zero, List.set_cons_succ, i64_w, i32_w]
            rfl
          refine last_ (i := 11) (N := none) #[true, true, true, true, true, true, true, true, true, true, true, true, false, false] rfl rfl (by kernel_rfl) (by decide) (fun K hK => ?_)
          refine skip_ (w1 := ?_) (by rfl) rfl ?_ ?_
          rotate_left
          · go_simp
            rfl
          refine hK.out _ _ ?_
          clear hK K
          refine pure_ (i := 12) (N := some 117) (v := ?_) (a' := ?_) #[true, true, true, true, true, true, true, true, true, true, true, true, true, false] rfl rfl (by kernel_rfl) (fun _ _ _ h => h) (Or.inl ⟨by rfl, ?_⟩) ?_ ?_
          rotate_left
          · intro w'
            go_simp
            with_reducible rfl
          rotate_left
          · simp only [Act.put, List.setIfInBounds_toArray, List.set_cons_zero, List.set_cons_succ, i64_w, i32_w]
            rfl
          refine last_ (i := 13) (N := none) #[true, true, true, true, true, true, true, true, true, true, true, true, true, true] rfl rfl (by kernel_rfl) (by decide) (fun K hK => ?_)
          refine skip_ (w1 := ?_) (by rfl) rfl ?_ ?_
          rotate_left
          · go_simp
            rfl
          refine hK.out _ _ ?_
          clear hK K
          refine done_ (by kernel_rfl) ?_
          have hs9 := (hst.put 2 (.slice A1_ n1_ c1_) (cells2 := #[.int .i64 0, .int .i64 oI, (.slice A1_ n1_ c1_), vE]) rfl).put 3 (.slice A2_ n2_ c2_) (cells2 := #[.int .i64 0, .int .i64 oI, (.slice A1_ n1_ c1_), (.slice A2_ n2_ c2_)]) rfl
          clear hst cP_ cE_ fP_ fE_
          have hst := hs9
          clear hs9
          have HST9 := Aside0.mk (HST8.out.two h713 hg13 hBw hst)
          clear hst HST8
          go_wp2
          go_roundw
          case rel => exact ⟨i + 1, _, _, al ++ L, ps ++ [kk], es ++ [ee], q9, by omega, by go_num, hpat, by have := HAL.out; rw [List.length_append]; omega, by rw [List.length_append, HPS.out]; rfl, by rw [List.length_append, HES.out]; rfl, HST9, ⟨by rw [HD.out]; exact HX3.out⟩⟩
          case measure => simp [intOf]; omega
      · have hne : ((i : Int) == 0) = false := beq_eq_false_iff_ne.mpr hi0
        have hkn2 : n = k := by omega
        clear hk2 hi0 HK
        subst hkn2
        obtain ⟨hsr, hr0⟩ := HRR.out
        go_wp2_with fail
        clear hsr hr0
        with_reducible refine HPART.out.mono ?_
        rintro e w6 ⟨v6, rfl, hl6, hr6, ht6⟩
        have hst6 := HST.out.turn hr6 ht6 hb7 (fun h => hg13 h.symm)
        have HL6 := Aside0.mk hl6
        have HST6 := Aside0.mk hst6
        have hsz6 := ht6.kept.1
        clear hl6 hr6 ht6 hst6 HPART c0 c1
        cases her : er == 0 with
        | false =>
          have HXN : Aside0 (X = none) := ⟨by have := HX2.out; rw [if_neg (by simpa using her)] at this; exact this.symm⟩
          go_wp2_with ((with_reducible refine wpList_store_row ?_ 24 (.tmp 7) (.tmp 102) ?_ w.heap.size zRice ?_ ?_ 24 zRice HST6.out.z7 (rc_info _ _ _ _) ?_ (rc_one _ _ _ _ _ _ _ _) ?_); rfl; rfl; rfl; rfl; rfl)
          refine bodyPost_ret (results_tct rfl _ _ w.heap.size 24 zRice (0, 0) _ rfl (setRow_heap _ _ _ _ _ _ HST6.out.z7) Try.underlying24 rfl (rc_info _ _ _ _)) rfl ?_
          exact .inl ⟨HXN.out, rfl, ⟨q9, HST6.out.rd.setRow hb7, hpat⟩, HST6.out.tn.setRow (Nat.le_refl _) hBw⟩
        | true =>
          have her2 : er = 0 := by simpa using her
          have HX3 : Aside0 (decL s n Oq 4 d (i + 1) (al ++ L) (ps ++ [kk]) (es ++ [ee]) q9 = X) := ⟨by have := HX2.out; rw [if_pos her2] at this; exact this⟩
          clear HX2 her2
          obtain ⟨A6, c6, e6, hc6, hC6⟩ := HL6.out.C
          subst e6
          have HC6 := Aside0.mk hC6
          have hCw6 : w.heap.size ≤ w6.heap.size := HST6.out.tn.kept.1
          clear hC6
          go_wp2_with (at_builtin; (with_reducible refine app_intlist (w0 := w6) (C := w.heap.size) (v := u14) (xs := al) (ys := L) (A := A6) (c := c6) (.tmp 103) (.tmp 104) ?_ ?_ ?_ ?_ ?_ ?_ ?_ ?_ ?_ ?_); rfl; rfl; rfl; rfl; exact HST6.out.U; exact HC6.out; exact Below.refl _ _; exact hCw6; omega; intro v7 w7 HI7 HB7 HG7 HO7)
          have HST7 := Aside0.mk (HST6.out.all hBw HI7.out HG7.out HO7.out)
          clear HI7 HB7 HG7 HO7 HST6 HC6 HL6
          have hst8 := HST7.out.below hB (below_drew (Below.refl w7.heap.size w7))
          have HST8 := Aside0.mk hst8
          have hst := TwoRows.start hst8.r13 (by decide) hst8.P hst8.E hst8.d3 hB13
          have hpl : ps.length ≤ 65536 := by have := HPS.out; omega
          have hel : es.length ≤ 65536 := by have := HES.out; omega
          clear hst8 HST7
          refine start_ (n := 14) (S := fun w' => w'.cell? ⟨b13, 2, none⟩ = some (vP) ∧ w'.cell? ⟨b13, 3, none⟩ = some (vE)) (ds := [11, 13]) #[false, false, false, false, false, false, false, false, false, false, false, false, false, false] (by kernel_rfl) rfl rfl ⟨blk_cell hst.box 2, blk_cell hst.box 3⟩ (fun hHeld => ?_)
          refine pure_ (i := 0) (N := some 106) (v := ?_) (a' := ?_) #[true, false, false, false, false, false, false, false, false, false, false, false, false, false] rfl rfl (by kernel_rfl) (fun _ _ _ h => h) (Or.inl ⟨by rfl, ?_⟩) ?_ ?_
          rotate_left
          · intro w'
            go_simp
            with_reducible rfl
          rotate_left
          · simp only [Act.put, List.setIfInBounds_toArray, List.set_cons_zero, List.set_cons_succ, i64_w, i32_w]
            rfl
          refine pure_ (i := 2) (N := some 108) (v := ?_) (a' := ?_) #[true, false, true, false, false, false, false, false, false, false, false, false, false, false] rfl rfl (by kernel_rfl) (fun _ _ _ h => h) (Or.inl ⟨by rfl, ?_⟩) ?_ ?_
          rotate_left
          · intro w'
            go_simp
            with_reducible rfl
          rotate_left
          · simp only [Act.put, List.setIfInBounds_toArray, List.set_cons_zero, List.set_cons_succ, i64_w, i32_w]
            rfl
          refine pure_ (i := 5) (N := some 111) (v := ?_) (a' := ?_) #[true, false, true, false, false, true, false, false, false, false, false, false, false, false] rfl rfl (by kernel_rfl) (fun _ _ _ h => h) (Or.inl ⟨by rfl, ?_⟩) ?_ ?_
          rotate_left
          · intro w'
            go_simp
            with_reducible rfl
          rotate_left
          · simp only [Act.put, List.setIfInBounds_toArray, List.set_cons_zero, List.set_cons_succ, i64_w, i32_w]
            rfl
          refine pure_ (i := 7) (N := some 113) (v := ?_) (a' := ?_) #[true, false, true, false, false, true, false, true, false, false, false, false, false, false] rfl rfl (by kernel_rfl) (fun _ _ _ h => h) (Or.inl ⟨by rfl, ?_⟩) ?_ ?_
          rotate_left
          · intro w'
            go_simp
            with_reducible rfl
          rotate_left
          · simp only [Act.put, List.setIfInBounds_toArray, List.set_cons_zero, List.set_cons_succ, i64_w, i32_w]
            rfl
          refine take_ (i := 1) (N := some 107) (v := ?_) (a' := ?_) #[true, true, true, false, false, true, false, true, false, false, false, false, false, false] rfl rfl (by kernel_rfl) (fun _ _ _ h => h) (Or.inl ⟨by rfl, ?_⟩) hHeld ?_ ?_
          rotate_left
          · rintro w' ⟨s0, s1⟩
            go_simp
            with_reducible rfl
          rotate_left
          · simp only [Act.put, List.setIfInBounds_toArray, List.set_cons_zero, List.set_cons_succ, i64_w, i32_w]
            rfl
          refine take_ (i := 6) (N := some 112) (v := ?_) (a' := ?_) #[true, true, true, false, false, true, true, true, false, false, false, false, false, false] rfl rfl (by kernel_rfl) (fun _ _ _ h => h) (Or.inl ⟨by rfl, ?_⟩) hHeld ?_ ?_
          rotate_left
          · rintro w' ⟨s0, s1⟩
            go_simp
            with_reducible rfl
          rotate_left
          · simp only [Act.put, List.setIfInBounds_toArray, List.set_cons_zero, List.set_cons_succ, i64_w, i32_w]
            rfl
          refine join_ (σ := Nat × Value × Nat) 4 #[true, true, true, true, true, true, true, true, true, false, true, false, false, false] (fun s_ => [(109, .slice (some ⟨s_.1, 0, none⟩) 1 1), (110, s_.2.1), (114, .slice (some ⟨s_.2.2, 0, none⟩) 1 1), (116, .pointer (some ⟨b13, 2, none⟩))]) (fun s_ w' => (w'.cell? ⟨b13, 2, none⟩ = some (vP) ∧ w'.cell? ⟨b13, 3, none⟩ = some (vE)) ∧ TwoRows w.heap.size b13 24 w7.drew (vP) (vE) w' #[.int .i64 0, .int .i64 oI, vP, vE] s_.2.1 (vE) (ps ++ [kk]) (es) ∧ w'.heap[s_.2.2]? = some (.cells #[.int .i64 (ee)] 3 (0, 0))) ?_ ?_
          rotate_left
          · intro hCont
            refine two_ (i := 3) (j := 8) (Ni := some 109) (Nj := some 114) #[true, true, true, true, false, true, true, true, false, false, false, false, false, false] #[true, true, true, false, false, true, true, true, true, false, false, false, false, false] rfl rfl rfl rfl (by kernel_rfl) (by decide) (by decide) (fun K hK => ?_) (fun K hK => ?_)
            · skip
              refine value_ (w1 := ?_) (v := ?_) (by rfl) rfl ?_ ?_
              rotate_left 2
              · go_simp
                constructor
                · rfl
                · rfl
              have hb1 : (w7.drew.alloc (.cells #[.int .i64 (kk)] 3 (0, 0))).heap[w7.heap.size]? = some (.cells #[.int .i64 (kk)] 3 (0, 0)) := by simpa using blk_new w7.drew (.cells #[.int .i64 (kk)] 3 (0, 0))
              have hs9 := hst.new (below_alloc (Below.refl _ _) (.cells #[.int .i64 (kk)] 3 (0, 0)))
              clear hst
              have hst := hs9
              clear hs9
              refine hK.out _ _ ⟨blk_cell hst.box 2, blk_cell hst.box 3⟩ (fun hHeld => ?_)
              clear hK K
              refine norm_ (a' := ?_) ?_ ?_
              rotate_left
              · show Act.put _ (some 109) _ = _
                simp only [Act.put, List.setIfInBounds_toArray, List.set_cons_zero, List.set_cons_succ, i64_w, i32_w]
                rfl
              refine two_ (i := 4) (j := 8) (Ni := some 110) (Nj := some 114) #[true, true, true, true, true, true, true, true, false, false, false, false, false, false] #[true, true, true, true, false, true, true, true, true, false, false, false, false, false] rfl rfl rfl rfl (by kernel_rfl) (by decide) (by decide) (fun K hK => ?_) (fun K hK => ?_)
              · skip
                refine app_lit_step (C := w.heap.size) (.tmp 107) (.tmp 109) (v := vP) (xs := ps) (kk) ?_ ?_ ?_ ?_ hst.P hb1 hst.le (by omega) ?_
                · rfl
                · rfl
                · rfl
                · rfl
                intro v1 w1 hr1 hg1 ho1
                have hs9 := hst.growP hr1 hg1 ho1
                clear hr1 hg1 ho1 hst hb1
                have hst := hs9
                clear hs9
                refine hK.out _ _ ⟨blk_cell hst.box 2, blk_cell hst.box 3⟩ (fun hHeld => ?_)
                clear hK K
                refine norm_ (a' := ?_) ?_ ?_
                rotate_left
                · show Act.put _ (some 110) _ = _
                  simp only [Act.put, List.setIfInBounds_toArray, List.set_cons_zero, List.set_cons_succ, i64_w, i32_w]
                  rfl
                refine pure_ (i := 10) (N := some 116) (v := ?_) (a' := ?_) #[true, true, true, true, true, true, true, true, false, false, true, false, false, false] rfl rfl (by kernel_rfl) (fun _ _ _ h => h) (Or.inl ⟨by rfl, ?_⟩) ?_ ?_
                rotate_left
                · intro w'
                  go_simp
                  with_reducible rfl
                rotate_left
                · simp only [Act.put, List.setIfInBounds_toArray, List.set_cons_zero, List.set_cons_succ, i64_w, i32_w]
                  rfl
                refine one_ (i := 8) (N := some 114) #[true, true, true, true, true, true, true, true, true, false, true, false, false, false] rfl rfl (by kernel_rfl) (by decide) (fun K hK => ?_)
                refine value_ (w1 := ?_) (v := ?_) (by rfl) rfl ?_ ?_
                rotate_left 2
                · go_simp
                  constructor
                  · rfl
                  · rfl
                have hb2 : (w1.alloc (.cells #[.int .i64 (ee)] 3 (0, 0))).heap[w1.heap.size]? = some (.cells #[.int .i64 (ee)] 3 (0, 0)) := by simpa using blk_new w1 (.cells #[.int .i64 (ee)] 3 (0, 0))
                have hs9 := hst.new (below_alloc (Below.refl _ _) (.cells #[.int .i64 (ee)] 3 (0, 0)))
                clear hst
                have hst := hs9
                clear hs9
                refine hK.out _ _ ⟨blk_cell hst.box 2, blk_cell hst.box 3⟩ (fun hHeld => ?_)
                clear hK K
                refine norm_ (a' := ?_) ?_ ?_
                rotate_left
                · show Act.put _ (some 114) _ = _
                  simp only [Act.put, List.setIfInBounds_toArray, List.set_cons_zero, List.set_cons_succ, i64_w, i32_w]
                  rfl
                exact norm_ (by simp only [putAll, Act.put, List.setIfInBounds_toArray, List.set_cons_zero, List.set_cons_succ]) (hCont (⟨w7.heap.size, v1, w1.heap.size⟩ : Nat × Value × Nat) _ ⟨⟨blk_cell hst.box 2, blk_cell hst.box 3⟩, hst, hb2⟩)
              · skip
                refine value_ (w1 := ?_) (v := ?_) (by rfl) rfl ?_ ?_
                rotate_left 2
                · go_simp
                  constructor
                  · rfl
                  · rfl
                have hb2 : ((w7.drew.alloc (.cells #[.int .i64 (kk)] 3 (0, 0))).alloc (.cells #[.int .i64 (ee)] 3 (0, 0))).heap[w7.heap.size + 1]? = some (.cells #[.int .i64 (ee)] 3 (0, 0)) := by simpa using blk_new (w7.drew.alloc (.cells #[.int .i64 (kk)] 3 (0, 0))) (.cells #[.int .i64 (ee)] 3 (0, 0))
                have hd2 : ∀ j, (vP).ownBlock = some j → j ≠ w7.heap.size + 1 := fun j hj => Nat.ne_of_lt (by have h9 := hst.P.lt j hj; simp at h9; omega)
                have hb1' : ((w7.drew.alloc (.cells #[.int .i64 (kk)] 3 (0, 0))).alloc (.cells #[.int .i64 (ee)] 3 (0, 0))).heap[_]? = some _ := blk_alloc hb1 (.cells #[.int .i64 (ee)] 3 (0, 0))
                clear hb1
                have hb1 := hb1'
                clear hb1'
                have hs9 := hst.new (below_alloc (Below.refl _ _) (.cells #[.int .i64 (ee)] 3 (0, 0)))
                clear hst
                have hst := hs9
                clear hs9
                refine hK.out _ _ ⟨blk_cell hst.box 2, blk_cell hst.box 3⟩ (fun hHeld => ?_)
                clear hK K
                refine norm_ (a' := ?_) ?_ ?_
                rotate_left
                · show Act.put _ (some 114) _ = _
                  simp only [Act.put, List.setIfInBounds_toArray, List.set_cons_zero, List.set_cons_succ, i64_w, i32_w]
                  rfl
                refine one_ (i := 4) (N := some 110) #[true, true, true, true, true, true, true, true, true, false, false, false, false, false] rfl rfl (by kernel_rfl) (by decide) (fun K hK => ?_)
                refine app_lit_step (C := w.heap.size) (.tmp 107) (.tmp 109) (v := vP) (xs := ps) (kk) ?_ ?_ ?_ ?_ hst.P hb1 hst.le (by omega) ?_
                · rfl
                · rfl
                · rfl
                · rfl
                intro v1 w1 hr1 hg1 ho1
                have hb2' := lit_kept hb2 hd2 hg1
                clear hb2 hd2
                have hb2 := hb2'
                clear hb2'
                have hs9 := hst.growP hr1 hg1 ho1
                clear hr1 hg1 ho1 hst hb1
                have hst := hs9
                clear hs9
                refine hK.out _ _ ⟨blk_cell hst.box 2, blk_cell hst.box 3⟩ (fun hHeld => ?_)
                clear hK K
                refine norm_ (a' := ?_) ?_ ?_
                rotate_left
                · show Act.put _ (some 110) _ = _
                  simp only [Act.put, List.setIfInBounds_toArray, List.set_cons_zero, List.set_cons_succ, i64_w, i32_w]
                  rfl
                refine pure_ (i := 10) (N := some 116) (v := ?_) (a' := ?_) #[true, true, true, true, true, true, true, true, true, false, true, false, false, false] rfl rfl (by kernel_rfl) (fun _ _ _ h => h) (Or.inl ⟨by rfl, ?_⟩) ?_ ?_
                rotate_left
                · intro w'
                  go_simp
                  with_reducible rfl
                rotate_left
                · simp only [Act.put, List.setIfInBounds_toArray, List.set_cons_zero, List.set_cons_succ, i64_w, i32_w]
                  rfl
                exact norm_ (by simp only [putAll, Act.put, List.setIfInBounds_toArray, List.set_cons_zero, List.set_cons_succ]) (hCont (⟨w7.heap.size, v1, w7.heap.size + 1⟩ : Nat × Value × Nat) _ ⟨⟨blk_cell hst.box 2, blk_cell hst.box 3⟩, hst, hb2⟩)
            · skip
              refine value_ (w1 := ?_) (v := ?_) (by rfl) rfl ?_ ?_
              rotate_left 2
              · go_simp
                constructor
                · rfl
                · rfl
              have hb2 : (w7.drew.alloc (.cells #[.int .i64 (ee)] 3 (0, 0))).heap[w7.heap.size]? = some (.cells #[.int .i64 (ee)] 3 (0, 0)) := by simpa using blk_new w7.drew (.cells #[.int .i64 (ee)] 3 (0, 0))
              have hd2 : ∀ j, (vP).ownBlock = some j → j ≠ w7.heap.size := fun j hj => Nat.ne_of_lt (by have h9 := hst.P.lt j hj; simp at h9; omega)
              have hs9 := hst.new (below_alloc (Below.refl _ _) (.cells #[.int .i64 (ee)] 3 (0, 0)))
              clear hst
              have hst := hs9
              clear hs9
              refine hK.out _ _ ⟨blk_cell hst.box 2, blk_cell hst.box 3⟩ (fun hHeld => ?_)
              clear hK K
              refine norm_ (a' := ?_) ?_ ?_
              rotate_left
              · show Act.put _ (some 114) _ = _
                simp only [Act.put, List.setIfInBounds_toArray, List.set_cons_zero, List.set_cons_succ, i64_w, i32_w]
                rfl
              refine one_ (i := 3) (N := some 109) #[true, true, true, true, false, true, true, true, true, false, false, false, false, false] rfl rfl (by kernel_rfl) (by decide) (fun K hK => ?_)
              refine value_ (w1 := ?_) (v := ?_) (by rfl) rfl ?_ ?_
              rotate_left 2
              · go_simp
                constructor
                · rfl
                · rfl
              have hb1 : ((w7.drew.alloc (.cells #[.int .i64 (ee)] 3 (0, 0))).alloc (.cells #[.int .i64 (kk)] 3 (0, 0))).heap[w7.heap.size + 1]? = some (.cells #[.int .i64 (kk)] 3 (0, 0)) := by simpa using blk_new (w7.drew.alloc (.cells #[.int .i64 (ee)] 3 (0, 0))) (.cells #[.int .i64 (kk)] 3 (0, 0))
              have hb2' : ((w7.drew.alloc (.cells #[.int .i64 (ee)] 3 (0, 0))).alloc (.cells #[.int .i64 (kk)] 3 (0, 0))).heap[_]? = some _ := blk_alloc hb2 (.cells #[.int .i64 (kk)] 3 (0, 0))
              clear hb2
              have hb2 := hb2'
              clear hb2'
              have hs9 := hst.new (below_alloc (Below.refl _ _) (.cells #[.int .i64 (kk)] 3 (0, 0)))
              clear hst
              have hst := hs9
              clear hs9
              refine hK.out _ _ ⟨blk_cell hst.box 2, blk_cell hst.box 3⟩ (fun hHeld => ?_)
              clear hK K
              refine norm_ (a' := ?_) ?_ ?_
              rotate_left
              · show Act.put _ (some 109) _ = _
                simp only [Act.put, List.setIfInBounds_toArray, List.set_cons_zero, List.set_cons_succ, i64_w, i32_w]
                rfl
              refine one_ (i := 4) (N := some 110) #[true, true, true, true, true, true, true, true, true, false, false, false, false, false] rfl rfl (by kernel_rfl) (by decide) (fun K hK => ?_)
              refine app_lit_step (C := w.heap.size) (.tmp 107) (.tmp 109) (v := vP) (xs := ps) (kk) ?_ ?_ ?_ ?_ hst.P hb1 hst.le (by omega) ?_
              · rfl
              · rfl
              · rfl
              · rfl
              intro v1 w1 hr1 hg1 ho1
              have hb2' := lit_kept hb2 hd2 hg1
              clear hb2 hd2
              have hb2 := hb2'
              clear hb2'
              have hs9 := hst.growP hr1 hg1 ho1
              clear hr1 hg1 ho1 hst hb1
              have hst := hs9
              clear hs9
              refine hK.out _ _ ⟨blk_cell hst.box 2, blk_cell hst.box 3⟩ (fun hHeld => ?_)
              clear hK K
              refine norm_ (a' := ?_) ?_ ?_
              rotate_left
              · show Act.put _ (some 110) _ = _
                simp only [Act.put, List.setIfInBounds_toArray, List.set_cons_zero, List.set_cons_succ, i64_w, i32_w]
                rfl
              refine pure_ (i := 10) (N := some 116) (v := ?_) (a' := ?_) #[true, true, true, true, true, true, true, true, true, false, true, false, false, false] rfl rfl (by kernel_rfl) (fun _ _ _ h => h) (Or.inl ⟨by rfl, ?_⟩) ?_ ?_
              rotate_left
              · intro w'
                go_simp
                with_reducible rfl
              rotate_left
              · simp only [Act.put, List.setIfInBounds_toArray, List.set_cons_zero, List.set_cons_succ, i64_w, i32_w]
                rfl
              exact norm_ (by simp only [putAll, Act.put, List.setIfInBounds_toArray, List.set_cons_zero, List.set_cons_succ]) (hCont (⟨w7.heap.size + 1, v1, w7.heap.size⟩ : Nat × Value × Nat) _ ⟨⟨blk_cell hst.box 2, blk_cell hst.box 3⟩, hst, hb2⟩)
          rintro ⟨b1, v1, b2⟩ w5 ⟨hHeld, hst, hb2⟩
          refine norm_ (a' := ?_) ?_ ?_
          rotate_left
          · simp only [putAll, Act.put, List.setIfInBounds_toArray, List.set_cons_zero, List.set_cons_succ]
            rfl
          refine one_ (i := 9) (N := some 115) #[true, true, true, true, true, true, true, true, true, true, true, false, false, false] rfl rfl (by kernel_rfl) (by decide) (fun K hK => ?_)
          refine app_lit_step (C := w.heap.size) (.tmp 112) (.tmp 114) (v := vE) (xs := es) (ee) ?_ ?_ ?_ ?_ hst.E hb2 hst.le (by omega) ?_
          · rfl
          · rfl
          · rfl
          · rfl
          intro v2 w6 hr2 hg2 ho2
          have hs9 := hst.growE hr2 hg2 ho2
          clear hr2 hg2 ho2 hst hb2
          have hst := hs9
          clear hs9
          obtain ⟨A1_, n1_, c1_, e1_⟩ := hst.P.shape
          subst e1_
          obtain ⟨A2_, n2_, c2_, e2_⟩ := hst.E.shape
          subst e2_
          have cP_ := blk_cell hst.box 2
          have cE_ := blk_cell hst.box 3
          have fP_ := blk_frozen hst.box 2
          have fE_ := blk_frozen hst.box 3
          refine hK.out _ _ ⟨blk_cell hst.box 2, blk_cell hst.box 3⟩ (fun hHeld => ?_)
          clear hK K
          refine norm_ (a' := ?_) ?_ ?_
          rotate_left
          · show Act.put _ (some 115) _ = _
            simp only [Act.put, List.setIfInBounds_toArray, List.set_cons_zero, List.set_cons_succ, i64_w, i32_w]
            rfl
          refine last_ (i := 11) (N := none) #[true, true, true, true, true, true, true, true, true, true, true, true, false, false] rfl rfl (by kernel_rfl) (by decide) (fun K hK => ?_)
          refine skip_ (w1 := ?_) (by rfl) rfl ?_ ?_
          rotate_left
          · go_simp
            rfl
          refine hK.out _ _ ?_
          clear hK K
          refine pure_ (i := 12) (N := some 117) (v := ?_) (a' := ?_) #[true, true, true, true, true, true, true, true, true, true, true, true, true, false] rfl rfl (by kernel_rfl) (fun _ _ _ h => h) (Or.inl ⟨by rfl, ?_⟩) ?_ ?_
          rotate_left
          · intro w'
            go_simp
            with_reducible rfl
          rotate_left
          · simp only [Act.put, List.setIfInBounds_toArray, List.set_cons_zero, List.set_cons_succ, i64_w, i32_w]
            rfl
          refine last_ (i := 13) (N := none) #[true, true, true, true, true, true, true, true, true, true, true, true, true, true] rfl rfl (by kernel_rfl) (by decide) (fun K hK => ?_)
          refine skip_ (w1 := ?_) (by rfl) rfl ?_ ?_
          rotate_left
          · go_simp
            rfl
          refine hK.out _ _ ?_
          clear hK K
          refine done_ (by kernel_rfl) ?_
          have hs9 := (hst.put 2 (.slice A1_ n1_ c1_) (cells2 := #[.int .i64 0, .int .i64 oI, (.slice A1_ n1_ c1_), vE]) rfl).put 3 (.slice A2_ n2_ c2_) (cells2 := #[.int .i64 0, .int .i64 oI, (.slice A1_ n1_ c1_), (.slice A2_ n2_ c2_)]) rfl
          clear hst cP_ cE_ fP_ fE_
          have hst := hs9
          clear hs9
          have HST9 := Aside0.mk (HST8.out.two h713 hg13 hBw hst)
          clear hst HST8
          go_wp2
          go_roundw
          case rel => exact ⟨i + 1, _, _, al ++ L, ps ++ [kk], es ++ [ee], q9, by omega, by go_num, hpat, by have := HAL.out; rw [List.length_append]; omega, by rw [List.length_append, HPS.out]; rfl, by rw [List.length_append, HES.out]; rfl, HST9, ⟨by rw [HD.out]; exact HX3.out⟩⟩
          case measure => simp [intOf]; omega
    · obtain rfl : i = N := by omega
      have hXS : X = some (al, ps, es, q) := by have := HX.out; rw [Nat.sub_self] at this; exact this.symm
      have HXS := Aside0.mk hXS
      clear hXS HX
      obtain ⟨AP_, nP_, cP_, eP_⟩ := HST.out.P.shape
      subst eP_
      obtain ⟨AE_, nE_, cE_, eE_⟩ := HST.out.E.shape
      subst eE_
      have i2 : ¬ (i : Int) < (i : Int) := Int.lt_irrefl _
      have hst := HST.out.below hB (below_drew (Below.refl wr.heap.size wr))
      clear HST
      go_wp2
      refine start_ (n := 5) (S := fun w' => w'.cell? ⟨b13, 0, none⟩ = some (.int .i64 0) ∧ w'.cell? ⟨b13, 1, none⟩ = some (.int .i64 oI) ∧ w'.cell? ⟨b13, 2, none⟩ = some (.slice AP_ nP_ cP_) ∧ w'.cell? ⟨b13, 3, none⟩ = some (.slice AE_ nE_ cE_)) (ds := [3]) #[false, false, false, false, false] (by kernel_rfl) rfl rfl ⟨blk_cell hst.r13 0, blk_cell hst.r13 1, blk_cell hst.r13 2, blk_cell hst.r13 3⟩ (fun hHeld => ?_)
      refine pure_ (i := 0) (N := some 119) (v := ?_) (a' := ?_) #[true, false, false, false, false] rfl rfl (by kernel_rfl) (fun _ _ _ h => h) (Or.inl ⟨by rfl, ?_⟩) ?_ ?_
      rotate_left
      · intro w'
        go_simp
        with_reducible rfl
      rotate_left
      · simp only [Act.put, List.setIfInBounds_toArray, List.set_cons_zero, List.set_cons_succ, i64_w, i32_w]
        rfl
      refine pure_ (i := 2) (N := some 6) (v := ?_) (a' := ?_) #[true, false, true, false, false] rfl rfl (by kernel_rfl) (fun _ _ _ h => h) (Or.inl ⟨by rfl, ?_⟩) ?_ ?_
      rotate_left
      · intro w'
        go_simp
        with_reducible rfl
      rotate_left
      · simp only [Act.put, List.setIfInBounds_toArray, List.set_cons_zero, List.set_cons_succ, i64_w, i32_w]
        rfl
      refine take_ (i := 1) (N := some 120) (v := ?_) (a' := ?_) #[true, true, true, false, false] rfl rfl (by kernel_rfl) (fun _ _ _ h => h) (Or.inl ⟨by rfl, ?_⟩) hHeld ?_ ?_
      rotate_left
      · rintro w' ⟨s0, s1, s2, s3⟩
        go_simp
        with_reducible rfl
      rotate_left
      · simp only [Act.put, List.setIfInBounds_toArray, List.set_cons_zero, List.set_cons_succ, i64_w, i32_w]
        rfl
      refine last_ (i := 3) (N := none) #[true, true, true, true, false] rfl rfl (by kernel_rfl) (by decide) (fun K hK => ?_)
      refine store_row_step 24 (.tmp 7) (.tmp 120) ?_ ?_ w.heap.size #[.int .i64 0, .int .i64 oI, .slice AP_ nP_ cP_, .slice AE_ nE_ cE_] ?_ ?_ 24 zRice hst.z7 (rc_info _ _ _ _) ?_ (rc_one _ _ _ _ _ _ _ _) ?_
      · rfl
      · rfl
      · rfl
      · rfl
      · rfl
      refine hK.out _ _ ?_
      clear hK K
      refine pure_ (i := 4) (N := some 8) (v := ?_) (a' := ?_) #[true, true, true, true, true] rfl rfl (by kernel_rfl) (fun _ _ _ h => h) (Or.inl ⟨by rfl, ?_⟩) ?_ ?_
      rotate_left
      · intro w'
        go_simp
        with_reducible rfl
      rotate_left
      · simp only [Act.put, List.setIfInBounds_toArray, List.set_cons_zero, List.set_cons_succ, i64_w, i32_w]
        rfl
      refine done_ (by kernel_rfl) ?_

      go_wp2
      refine bodyPost_ret (results_tct rfl _ _ w.heap.size 24 #[.int .i64 0, .int .i64 oI, .slice AP_ nP_ cP_, .slice AE_ nE_ cE_] (0, 0) _ rfl (setRow_heap _ _ _ _ _ _ hst.z7) Try.underlying24 rfl (rc_info _ _ _ _)) rfl ?_
      exact .inr ⟨al, ps, es, q, _, _, _, HXS.out, rfl, hst.U.setRow hst.z7 (by decide), hst.P.setRow hst.z7 (by decide), hst.E.setRow hst.z7 (by decide), hst.rd.setRow hb7, hq, hst.tn.setRow (Nat.le_refl _) hBw⟩
end Go.Proofs.Ytfhekkoibmlmpaa.Hand

/- Contracts of layer 8, proved by hand: Decode, where its head may be (method 1). -/
namespace Go.Proofs.Ytfhekkoibmlmpaa.Hand
open Go.RowKit Go.Proofs.Ytfhekkoibmlmpaa.Q Go.Proofs.YtfhekkoibmlmpaaW.PrintWords Go.Proofs.YtfhekkoibmlmpaaW.PrintLast Go.Proofs.YtfhekkoibmlmpaaW.PrintMore
set_option linter.unusedVariables false
set_option linter.unusedSimpArgs false

set_option maxHeartbeats 16000000 in
set_option maxRecDepth 100000 in
theorem Decode_go1 (s : ByteArray) (hs : s.size ≤ 281474976710656) (p : Nat) (hp : p ≤ 8 * s.size) (Bk Oq n : Nat) (hbad : ¬ badArgs Bk Oq) (B g : Nat) (hB : B ≤ g) (w : World) (hBw : B ≤ w.heap.size) (hR : RAt w g s p)
    (h1 : (getR s p 2).2.1 = 0) (h2 : (getR s (getR s p 2).2.2 4).2.1 = 0) (hm : (getR s p 2).1 = 1) (hsh : shapeP 1 (getR s (getR s p 2).2.2 4).1 Bk Oq) (hn : Bk = 2 ^ (getR s (getR s p 2).2.2 4).1 * n) (hon : Oq ≤ n) :
    Calls Try.prog 21 #[.pointer (some ⟨g, 0, none⟩), .int .i64 Bk, .int .i64 Oq] w
      (DecPost s 1 (getR s (getR s p 2).2.2 4).1 (decL s n Oq 5 (2 ^ (getR s (getR s p 2).2.2 4).1) 0 [] [] [] (getR s (getR s p 2).2.2 4).2.2) w.heap.size B g w) := by
  have hup := Try.underlying45
  obtain ⟨x1, x2, x3, x4, x5⟩ : ¬ (Bk : Int) < 1 ∧ ¬ 65535 < (Bk : Int) ∧ ¬ (Oq : Int) < 0 ∧ ¬ 32 < (Oq : Int) ∧ ¬ (Bk : Int) < (Oq : Int) := by unfold badArgs at hbad; omega
  have hgl := hR.lt
  have hbel : Below w.heap.size w (w.alloc (.cells zRice 24)) := below_alloc (Below.refl _ _) _
  have HG1 := Aside0.mk (Get_any s hs p hp 2 B g hB (w.alloc (.cells zRice 24)) (hR.below hbel))
  have hat1 := getR_at s p 2 hp
  have hl1 : (getR s p 2).1 < 4 := getR_small s p 2
  have HG2 : Aside0 (∀ W, RAt W g s (getR s p 2).2.2 → Calls Try.prog 41 #[.pointer (some ⟨g, 0, none⟩), .int .i64 4] W fun e w' => e = .returned (.tuple #[.int .u64 (getR s (getR s p 2).2.2 4).1, .int .i64 (getR s (getR s p 2).2.2 4).2.1]) ∧ RAt w' g s (getR s (getR s p 2).2.2 4).2.2 ∧ Turned B g W w') := ⟨fun W h => Get_any s hs _ hat1 4 B g hB W h⟩
  have hat2 := getR_at s (getR s p 2).2.2 4 hat1
  have hl2 : (getR s (getR s p 2).2.2 4).1 < 16 := getR_small s _ 4
  have HT0 := Aside0.mk ((Turned.refl B g w).new hbel (by omega))
  have HZ0 := Aside0.mk (blk_new w (.cells zRice 24 (0, 0)))
  have hb7 : w.heap.size ≠ g := by omega
  have HS := Aside0.mk hs
  clear hbad hR hbel hs
  generalize getR s (getR s p 2).2.2 4 = gr2 at h2 hsh hn HG2 hat2 hl2 ⊢
  generalize getR s p 2 = gr1 at h1 hm HG1 HG2 hat1 hl1 ⊢
  obtain ⟨a1, e1, q1⟩ := gr1
  obtain ⟨a2, e2, q2⟩ := gr2
  simp only at h1 h2 hm hsh hn HG1 HG2 hat1 hat2 hl1 hl2 ⊢
  subst h1
  subst h2
  subst hm
  obtain ⟨X, hX⟩ : ∃ X, decL s n Oq 5 (2 ^ a2) 0 [] [] [] q2 = X := ⟨_, rfl⟩
  rw [hX]
  have HX := Aside0.mk hX
  have hN2 : 2 ^ a2 ≤ 2 ^ 15 := Nat.pow_le_pow_right (by decide) (by omega)
  have hNp : 0 < 2 ^ a2 := Nat.two_pow_pos a2
  have hsl : (1 : Int) * 2 ^ min ((a2 : Int)).toNat 64 = ((2 ^ a2 : Nat) : Int) := by
    rw [Int.toNat_natCast, Nat.min_eq_left (by omega), Int.one_mul]
    simp
  have hdv : Bk / 2 ^ a2 = n := by rw [hn]; exact Nat.mul_div_cancel_left n hNp
  have hsr : (Bk : Int) / 2 ^ min ((a2 : Int)).toNat 64 = (n : Int) := by rw [shr_small Bk a2 (by omega), hdv]
  have HCS : Aside0 (∀ W, Calls Try.prog 39 #[.agg #[.int .i64 1, .int .i64 a2, .slice none 0 0, .slice none 0 0], .int .i64 Bk, .int .i64 Oq] W fun e w' => e = .returned (.bool true) ∧ Below W.heap.size W w') := ⟨fun W =>
    rice_shape.calls 1 a2 none 0 [] none 0 [] Bk Oq true W ⟨rfl, by decide, fun h => absurd h (Nat.lt_irrefl _)⟩ (Nat.le_refl _) ⟨rfl, by decide, fun h => absurd h (Nat.lt_irrefl _)⟩ (Nat.le_refl _) (by rw [shape_eq 1 a2 [] [] Bk Oq (by omega) (by omega), decide_eq_true hsh])⟩
  have HNn : Aside0 (2 ^ a2 * n ≤ 65535) := ⟨by rw [← hn]; omega⟩
  have hn6 : n ≤ 65535 := by
    have := HNn.out
    have h3 : 1 * n ≤ 2 ^ a2 * n := Nat.mul_le_mul_right n hNp
    omega
  obtain ⟨N, hN⟩ : ∃ N, 2 ^ a2 = N := ⟨_, rfl⟩
  rw [hN] at HX hN2 hNp hsl HNn
  clear hX hn hsh hdv hN
  obtain ⟨oI, ho⟩ : ∃ oI : Int, (a2 : Int) = oI := ⟨_, rfl⟩
  have o0 : 0 ≤ oI := by omega
  have o1 : oI ≤ 64 := by omega
  have o2 : oI.toNat = a2 := by omega
  rw [ho] at hsl hsr HG2 HCS ⊢
  have HO := Aside0.mk ho
  clear ho o2 hl2
  have hj9 : IntKind.i64.wrap (1 * 2 ^ min oI.toNat 64) = (N : Int) := by rw [hsl, IntKind.wrap_i64]; omega
  have hmin : min oI.toNat 64 = oI.toNat := Nat.min_eq_left (by omega)
  have hj0 : IntKind.i64.wrap (1 * 2 ^ oI.toNat) = (N : Int) := by rw [hmin] at hj9; exact hj9
  have hj1 : IntKind.i64.wrap (2 ^ min oI.toNat 64) = (N : Int) := by rw [Int.one_mul] at hj9; exact hj9
  have hj2 : IntKind.i64.wrap (2 ^ oI.toNat) = (N : Int) := by rw [Int.one_mul] at hj0; exact hj0
  have hj3 : wrap64 (1 * 2 ^ min oI.toNat 64) = (N : Int) := by rw [hsl]; unfold wrap64; omega
  have hj4 : wrap64 (2 ^ min oI.toNat 64) = (N : Int) := by rw [Int.one_mul] at hj3; exact hj3
  have hr0 : (Bk : Int) / 2 ^ oI.toNat = (n : Int) := by rw [hmin] at hsr; exact hsr
  have HJ := Aside0.mk (And.intro hj9 (And.intro hj0 (And.intro hj1 (And.intro hj2 (And.intro hj3 hj4)))))
  have HRR := Aside0.mk (And.intro hsr hr0)
  clear hsl hmin hj9 hj0 hj1 hj2 hj3 hj4 hsr hr0
  go_enter Try.func21, Try.ntmps21
  go_wp2_with fail
  with_reducible refine HG1.out.mono ?_
  rintro e w2 ⟨rfl, hr2, ht2⟩
  have HR2 := Aside0.mk hr2
  have HT2 := Aside0.mk (HT0.out.trans ht2)
  have HZ2 := Aside0.mk (blk_kept HZ0.out ht2.kept (fun h => hb7 h))
  clear hr2 ht2 HG1 HT0 HZ0
  go_wp2_with fail
  with_reducible refine (HG2.out w2 HR2.out).mono ?_
  rintro e w3 ⟨rfl, hr3, ht3⟩
  have HR3 := Aside0.mk hr3
  have HT3 := Aside0.mk (HT2.out.trans ht3)
  have HZ3 := Aside0.mk (blk_kept HZ2.out ht3.kept (fun h => hb7 h))
  have hg3 := hr3.lt
  have hsz3 := HT3.out.kept.1
  clear hr3 ht3 HG2 HT2 HZ2 HR2
  have HB4 := Aside0.mk (below_setRow (below_alloc (Below.refl w3.heap.size w3) (.cells zRice 24 (0, 0))) (Nat.le_refl _) #[.int .i64 1, .int .i64 oI, .slice none 0 0, .slice none 0 0])
  have HX4 := Aside0.mk (setRow_heap _ _ _ #[.int .i64 1, .int .i64 oI, .slice none 0 0, .slice none 0 0] _ _ (blk_new w3 (.cells zRice 24 (0, 0))))
  have HZ4 := Aside0.mk (blk_below HZ3.out HB4.out)
  have HR4 := Aside0.mk (HR3.out.below HB4.out)
  have HT4 := Aside0.mk (HT3.out.new HB4.out (by omega))
  have h713 : w.heap.size ≠ w3.heap.size := by have := blk_lt HZ3.out; omega
  clear HZ3 HR3 HT3
  go_upto_region 6 with ((with_reducible refine wpList_store_row ?_ 24 (.tmp 13) (.tmp 59) ?_ w3.heap.size #[.int .i64 1, .int .i64 oI, .slice none 0 0, .slice none 0 0] ?_ ?_ 24 zRice (blk_new w3 (.cells zRice 24 (0, 0))) (rc_info _ _ _ _) ?_ (rc_one _ _ _ _ _ _ _ _) ?_); rfl; rfl; rfl; rfl; rfl)
  have hsz4 := HB4.out.size
  generalize (w3.alloc (.cells zRice 24 (0, 0))).setRow w3.heap.size #[.int .i64 1, .int .i64 oI, .slice none 0 0, .slice none 0 0] = w4 at *
  have hB13 : w.heap.size ≤ w3.heap.size := hsz3
  have hg13 : g ≠ w3.heap.size := by omega
  clear hsz3 hg3 HB4
  generalize w3.heap.size = b13 at *
  have c0 := blk_cell HX4.out 0
  have c1 := blk_cell HX4.out 1
  have c2 := blk_cell HX4.out 2
  have c3 := blk_cell HX4.out 3
  go_wp2_with fail
  with_reducible refine (HCS.out _).mono ?_
  rintro e w5 ⟨rfl, hb5⟩
  have hst : DecSt w B g w.heap.size b13 s 1 oI w5 q2 (.slice none 0 0) (.slice none 0 0) (.slice none 0 0) [] [] [] :=
    ⟨HR4.out.below hb5, HT4.out.new hb5 (by have := HR4.out.lt; omega), blk_below HZ4.out hb5, blk_below HX4.out hb5, IntsAt.nil _ _, IntsAt.nil _ _, IntsAt.nil _ _, Dis.nil_left _, Dis.nil_left _, Dis.nil_left _⟩
  have HST := Aside0.mk hst
  clear hb5 c0 c1 c2 c3 HX4 HZ4 HR4 HT4 HCS hst
  have d1 := blk_cell HST.out.r13 1
  obtain ⟨hj9, hj0, hj1, hj2, hj3, hj4⟩ := HJ.out
  go_wp2
  clear hj9 hj0 hj1 hj2 hj3 hj4
  go_loopw [14, 77] (fun uv iv wr => ∃ (i : Nat) (vP vE : Value) (al ps es : List Int) (q : Nat), i ≤ N ∧ iv = .int .i64 i ∧ q ≤ 8 * s.size ∧ al.length ≤ i * n ∧ ps.length = i ∧ es.length = i ∧ Aside0 (DecSt w B g w.heap.size b13 s 1 oI wr q uv vP vE al ps es) ∧ Aside0 (decL s n Oq 5 (N - i) i al ps es q = X)) (fun _ iv _ => N - (intOf iv).toNat)
  case atStart => exact ⟨0, .slice none 0 0, .slice none 0 0, [], [], [], q2, Nat.zero_le _, rfl, hat2, Nat.zero_le _, rfl, rfl, HST, ⟨by rw [Nat.sub_zero]; exact HX.out⟩⟩
  case round =>
    clear HST d1 HX
    obtain ⟨i, vP, vE, al, ps, es, q, hi, rfl, hq, hal, hps, hes, HST, HX⟩ := hrel
    have HPS := Aside0.mk hps
    have HES := Aside0.mk hes
    by_cases hlt : i < N
    · have i0 : (0 : Int) ≤ (i : Int) := by omega
      have i1 : (i : Int) < (N : Int) := by omega
      obtain ⟨d, hd⟩ : ∃ d, N - i = d + 1 := ⟨N - i - 1, by omega⟩
      have hd2 : N - (i + 1) = d := by omega
      have hmul : (i + 1) * n = i * n + n := Nat.succ_mul i n
      have hle : (i + 1) * n ≤ N * n := Nat.mul_le_mul_right n (by omega)
      have HLE := Aside0.mk (Nat.le_trans hle HNn.out)
      obtain ⟨k, hk⟩ : ∃ k, (if i = 0 then n - Oq else n) = k := ⟨_, rfl⟩
      have hkn : k ≤ n := by rw [← hk]; split <;> omega
      have HPART := Aside0.mk (partition_any5 s HS.out q hq k (by omega) B g hB wr HST.out.rd)
      have hpat := partR_at s q k 5 hq
      have hplen := partR_length s q k 5
      have HX2 : Aside0 ((if (partR s q k 5).2.2.2.1 = 0 then decL s n Oq 5 d (i + 1) (al ++ (partR s q k 5).1) (ps ++ [(partR s q k 5).2.1]) (es ++ [(partR s q k 5).2.2.1]) (partR s q k 5).2.2.2.2 else none) = X) := ⟨by
        have := HX.out
        rw [hd] at this
        unfold decL at this
        rw [hk] at this
        exact this⟩
      have hal2 : al.length + k ≤ 65535 := by have := HLE.out; omega
      have hal3 : al.length + k ≤ (i + 1) * n := by omega
      have HAL := Aside0.mk hal3
      have HD := Aside0.mk hd2
      clear HX hd hd2 hmul hle hal3 hal hps hes
      generalize partR s q k 5 = pr at HPART hpat hplen HX2
      obtain ⟨L, kk, ee, er, q9⟩ := pr
      simp only at HPART hpat hplen HX2
      have c0 := blk_cell HST.out.r13 0
      have c1 := blk_cell HST.out.r13 1
      have hk2 : ((i = 0 ∧ (n : Int) - (Oq : Int) = (k : Int)) ∨ (¬ (i : Int) = 0 ∧ (k : Int) = (n : Int))) := by
        by_cases h0 : i = 0
        · left
          rw [if_pos h0] at hk
          exact ⟨h0, by omega⟩
        · right
          rw [if_neg h0] at hk
          exact ⟨by omega, by omega⟩
      have HK := Aside0.mk hk
      clear hk
      rcases hk2 with ⟨hi0, hk2⟩ | ⟨hi0, hk2⟩
      · skip
        have hne : ((i : Int) == 0) = true := beq_iff_eq.mpr (by omega)
        clear hi0 HK
        obtain ⟨hsr, hr0⟩ := HRR.out
        go_wp2_with fail
        clear hsr hr0
        with_reducible refine HPART.out.mono ?_
        rintro e w6 ⟨v6, rfl, hl6, hr6, ht6⟩
        have hst6 := HST.out.turn hr6 ht6 hb7 (fun h => hg13 h.symm)
        have HL6 := Aside0.mk hl6
        have HST6 := Aside0.mk hst6
        have hsz6 := ht6.kept.1
        clear hl6 hr6 ht6 hst6 HPART c0 c1
        cases her : er == 0 with
        | false =>
          have HXN : Aside0 (X = none) := ⟨by have := HX2.out; rw [if_neg (by simpa using her)] at this; exact this.symm⟩
          go_wp2_with ((with_reducible refine wpList_store_row ?_ 24 (.tmp 7) (.tmp 102) ?_ w.heap.size zRice ?_ ?_ 24 zRice HST6.out.z7 (rc_info _ _ _ _) ?_ (rc_one _ _ _ _ _ _ _ _) ?_); rfl; rfl; rfl; rfl; rfl)
          refine bodyPost_ret (results_tct rfl _ _ w.heap.size 24 zRice (0, 0) _ rfl (setRow_heap _ _ _ _ _ _ HST6.out.z7) Try.underlying24 rfl (rc_info _ _ _ _)) rfl ?_
          exact .inl ⟨HXN.out, rfl, ⟨q9, HST6.out.rd.setRow hb7, hpat⟩, HST6.out.tn.setRow (Nat.le_refl _) hBw⟩
        | true =>
          have her2 : er = 0 := by simpa using her
          have HX3 : Aside0 (decL s n Oq 5 d (i + 1) (al ++ L) (ps ++ [kk]) (es ++ [ee]) q9 = X) := ⟨by have := HX2.out; rw [if_pos her2] at this; exact this⟩
          clear HX2 her2
          obtain ⟨A6, c6, e6, hc6, hC6⟩ := HL6.out.C
          subst e6
          have HC6 := Aside0.mk hC6
          have hCw6 : w.heap.size ≤ w6.heap.size := HST6.out.tn.kept.1
          clear hC6
          go_wp2_with (at_builtin; (with_reducible refine app_intlist (w0 := w6) (C := w.heap.size) (v := u14) (xs := al) (ys := L) (A := A6) (c := c6) (.tmp 103) (.tmp 104) ?_ ?_ ?_ ?_ ?_ ?_ ?_ ?_ ?_ ?_); rfl; rfl; rfl; rfl; exact HST6.out.U; exact HC6.out; exact Below.refl _ _; exact hCw6; omega; intro v7 w7 HI7 HB7 HG7 HO7)
          have HST7 := Aside0.mk (HST6.out.all hBw HI7.out HG7.out HO7.out)
          clear HI7 HB7 HG7 HO7 HST6 HC6 HL6
          have hst8 := HST7.out.below hB (below_drew (Below.refl w7.heap.size w7))
          have HST8 := Aside0.mk hst8
          have hst := TwoRows.start hst8.r13 (by decide) hst8.P hst8.E hst8.d3 hB13
          have hpl : ps.length ≤ 65536 := by have := HPS.out; omega
          have hel : es.length ≤ 65536 := by have := HES.out; omega
          clear hst8 HST7
          refine start_ (n := 14) (S := fun w' => w'.cell? ⟨b13, 2, none⟩ = some (vP) ∧ w'.cell? ⟨b13, 3, none⟩ = some (vE)) (ds := [11, 13]) #[false, false, false, false, false, false, false, false, false, false, false, false, false, false] (by kernel_rfl) rfl rfl ⟨blk_cell hst.box 2, blk_cell hst.box 3⟩ (fun hHeld => ?_)
          refine pure_ (i := 0) (N := some 106) (v := ?_) (a' := ?_) #[true, false, false, false, false, false, false, false, false, false, false, false, false, false] rfl rfl (by kernel_rfl) (fun _ _ _ h => h) (Or.inl ⟨by rfl, ?_⟩) ?_ ?_
          rotate_left
          · intro w'
            go_simp
            with_reducible rfl
          rotate_left
          · simp only [Act.put, List.setIfInBounds_toArray, List.set_cons_zero, List.set_cons_succ, i64_w, i32_w]
            rfl
          refine pure_ (i := 2) (N := some 108) (v := ?_) (a' := ?_) #[true, false, true, false, false, false, false, false, false, false, false, false, false, false] rfl rfl (by kernel_rfl) (fun _ _ _ h => h) (Or.inl ⟨by rfl, ?_⟩) ?_ ?_
          rotate_left
          · intro w'
            go_simp
            with_reducible rfl
          rotate_left
          · simp only [Act.put, List.setIfInBounds_toArray, List.set_cons_zero, List.set_cons_succ, i64_w, i32_w]
            rfl
          refine pure_ (i := 5) (N := some 111) (v := ?_) (a' := ?_) #[true, false, true, false, false, true, false, false, false, false, false, false, false, false] rfl rfl (by kernel_rfl) (fun _ _ _ h => h) (Or.inl ⟨by rfl, ?_⟩) ?_ ?_
          rotate_left
          · intro w'
            go_simp
            with_reducible rfl
          rotate_left
          · simp only [Act.put, List.setIfInBounds_toArray, List.set_cons_zero, List.set_cons_succ, i64_w, i32_w]
            rfl
          refine pure_ (i := 7) (N := some 113) (v := ?_) (a' := ?_) #[true, false, true, false, false, true, false, true, false, false, false, false, false, false] rfl rfl (by kernel_rfl) (fun _ _ _ h => h) (Or.inl ⟨by rfl, ?_⟩) ?_ ?_
          rotate_left
          · intro w'
            go_simp
            with_reducible rfl
          rotate_left
          · simp only [Act.put, List.setIfInBounds_toArray, List.set_cons_zero, List.set_cons_succ, i64_w, i32_w]
            rfl
          refine take_ (i := 1) (N := some 107) (v := ?_) (a' := ?_) #[true, true, true, false, false, true, false, true, false, false, false, false, false, false] rfl rfl (by kernel_rfl) (fun _ _ _ h => h) (Or.inl ⟨by rfl, ?_⟩) hHeld ?_ ?_
          rotate_left
          · rintro w' ⟨s0, s1⟩
            go_simp
            with_reducible rfl
          rotate_left
          · simp only [Act.put, List.setIfInBounds_toArray, List.set_cons_zero, List.set_cons_succ, i64_w, i32_w]
            rfl
          refine take_ (i := 6) (N := some 112) (v := ?_) (a' := ?_) #[true, true, true, false, false, true, true, true, false, false, false, false, false, false] rfl rfl (by kernel_rfl) (fun _ _ _ h => h) (Or.inl ⟨by rfl, ?_⟩) hHeld ?_ ?_
          rotate_left
          · rintro w' ⟨s0, s1⟩
            go_simp
            with_reducible rfl
          rotate_left
          · simp only [Act.put, List.setIfInBounds_toArray, List.set_cons_zero, List.set_cons_succ, i64_w, i32_w]
            rfl
          refine join_ (σ := Nat × Value × Nat) 4 #[true, true, true, true, true, true, true, true, true, false, true, false, false, false] (fun s_ => [(109, .slice (some ⟨s_.1, 0, none⟩) 1 1), (110, s_.2.1), (114, .slice (some ⟨s_.2.2, 0, none⟩) 1 1), (116, .pointer (some ⟨b13, 2, none⟩))]) (fun s_ w' => (w'.cell? ⟨b13, 2, none⟩ = some (vP) ∧ w'.cell? ⟨b13, 3, none⟩ = some (vE)) ∧ TwoRows w.heap.size b13 24 w7.drew (vP) (vE) w' #[.int .i64 1, .int .i64 oI, vP, vE] s_.2.1 (vE) (ps ++ [kk]) (es) ∧ w'.heap[s_.2.2]? = some (.cells #[.int .i64 (ee)] 3 (0, 0))) ?_ ?_
          rotate_left
          · intro hCont
            refine two_ (i := 3) (j := 8) (Ni := some 109) (Nj := some 114) #[true, true, true, true, false, true, true, true, false, false, false, false, false, false] #[true, true, true, false, false, true, true, true, true, false, false, false, false, false] rfl rfl rfl rfl (by kernel_rfl) (by decide) (by decide) (fun K hK => ?_) (fun K hK => ?_)
            · skip
              refine value_ (w1 := ?_) (v := ?_) (by rfl) rfl ?_ ?_
              rotate_left 2
              · go_simp
                constructor
                · rfl
                · rfl
              have hb1 : (w7.drew.alloc (.cells #[.int .i64 (kk)] 3 (0, 0))).heap[w7.heap.size]? = some (.cells #[.int .i64 (kk)] 3 (0, 0)) := by simpa using blk_new w7.drew (.cells #[.int .i64 (kk)] 3 (0, 0))
              have hs9 := hst.new (below_alloc (Below.refl _ _) (.cells #[.int .i64 (kk)] 3 (0, 0)))
              clear hst
              have hst := hs9
              clear hs9
              refine hK.out _ _ ⟨blk_cell hst.box 2, blk_cell hst.box 3⟩ (fun hHeld => ?_)
              clear hK K
              refine norm_ (a' := ?_) ?_ ?_
              rotate_left
              · show Act.put _ (some 109) _ = _
                simp only [Act.put, List.setIfInBounds_toArray, List.set_cons_zero, List.set_cons_succ, i64_w, i32_w]
                rfl
              refine two_ (i := 4) (j := 8) (Ni := some 110) (Nj := some 114) #[true, true, true, true, true, true, true, true, false, false, false, false, false, false] #[true, true, true, true, false, true, true, true, true, false, false, false, false, false] rfl rfl rfl rfl (by kernel_rfl) (by decide) (by decide) (fun K hK => ?_) (fun K hK => ?_)
              · skip
                refine app_lit_step (C := w.heap.size) (.tmp 107) (.tmp 109) (v := vP) (xs := ps) (kk) ?_ ?_ ?_ ?_ hst.P hb1 hst.le (by omega) ?_
                · rfl
                · rfl
                · rfl
                · rfl
                intro v1 w1 hr1 hg1 ho1
                have hs9 := hst.growP hr1 hg1 ho1
                clear hr1 hg1 ho1 hst hb1
                have hst := hs9
                clear hs9
                refine hK.out _ _ ⟨blk_cell hst.box 2, blk_cell hst.box 3⟩ (fun hHeld => ?_)
                clear hK K
                refine norm_ (a' := ?_) ?_ ?_
                rotate_left
                · show Act.put _ (some 110) _ = _
                  simp only [Act.put, List.setIfInBounds_toArray, List.set_cons_zero, List.set_cons_succ, i64_w, i32_w]
                  rfl
                refine pure_ (i := 10) (N := some 116) (v := ?_) (a' := ?_) #[true, true, true, true, true, true, true, true, false, false, true, false, false, false] rfl rfl (by kernel_rfl) (fun _ _ _ h => h) (Or.inl ⟨by rfl, ?_⟩) ?_ ?_
                rotate_left
                · intro w'
                  go_simp
                  with_reducible rfl
                rotate_left
                · simp only [Act.put, List.setIfInBounds_toArray, List.set_cons_zero, List.set_cons_succ, i64_w, i32_w]
                  rfl
                refine one_ (i := 8) (N := some 114) #[true, true, true, true, true, true, true, true, true, false, true, false, false, false] rfl rfl (by kernel_rfl) (by decide) (fun K hK => ?_)
                refine value_ (w1 := ?_) (v := ?_) (by rfl) rfl ?_ ?_
                rotate_left 2
                · go_simp
                  constructor
                  · rfl
                  · rfl
                have hb2 : (w1.alloc (.cells #[.int .i64 (ee)] 3 (0, 0))).heap[w1.heap.size]? = some (.cells #[.int .i64 (ee)] 3 (0, 0)) := by simpa using blk_new w1 (.cells #[.int .i64 (ee)] 3 (0, 0))
                have hs9 := hst.new (below_alloc (Below.refl _ _) (.cells #[.int .i64 (ee)] 3 (0, 0)))
                clear hst
                have hst := hs9
                clear hs9
                refine hK.out _ _ ⟨blk_cell hst.box 2, blk_cell hst.box 3⟩ (fun hHeld => ?_)
                clear hK K
                refine norm_ (a' := ?_) ?_ ?_
                rotate_left
                · show Act.put _ (some 114) _ = _
                  simp only [Act.put, List.setIfInBounds_toArray, List.set_cons_zero, List.set_cons_succ, i64_w, i32_w]
                  rfl
                exact norm_ (by simp only [putAll, Act.put, List.setIfInBounds_toArray, List.set_cons_zero, List.set_cons_succ]) (hCont (⟨w7.heap.size, v1, w1.heap.size⟩ : Nat × Value × Nat) _ ⟨⟨blk_cell hst.box 2, blk_cell hst.box 3⟩, hst, hb2⟩)
              · skip
                refine value_ (w1 := ?_) (v := ?_) (by rfl) rfl ?_ ?_
                rotate_left 2
                · go_simp
                  constructor
                  · rfl
                  · rfl
                have hb2 : ((w7.drew.alloc (.cells #[.int .i64 (kk)] 3 (0, 0))).alloc (.cells #[.int .i64 (ee)] 3 (0, 0))).heap[w7.heap.size + 1]? = some (.cells #[.int .i64 (ee)] 3 (0, 0)) := by simpa using blk_new (w7.drew.alloc (.cells #[.int .i64 (kk)] 3 (0, 0))) (.cells #[.int .i64 (ee)] 3 (0, 0))
                have hd2 : ∀ j, (vP).ownBlock = some j → j ≠ w7.heap.size + 1 := fun j hj => Nat.ne_of_lt (by have h9 := hst.P.lt j hj; simp at h9; omega)
                have hb1' : ((w7.drew.alloc (.cells #[.int .i64 (kk)] 3 (0, 0))).alloc (.cells #[.int .i64 (ee)] 3 (0, 0))).heap[_]? = some _ := blk_alloc hb1 (.cells #[.int .i64 (ee)] 3 (0, 0))
                clear hb1
                have hb1 := hb1'
                clear hb1'
                have hs9 := hst.new (below_alloc (Below.refl _ _) (.cells #[.int .i64 (ee)] 3 (0, 0)))
                clear hst
                have hst := hs9
                clear hs9
                refine hK.out _ _ ⟨blk_cell hst.box 2, blk_cell hst.box 3⟩ (fun hHeld => ?_)
                clear hK K
                refine norm_ (a' := ?_) ?_ ?_
                rotate_left
                · show Act.put _ (some 114) _ = _
                  simp only [Act.put, List.setIfInBounds_toArray, List.set_cons_zero, List.set_cons_succ, i64_w, i32_w]
                  rfl
                refine one_ (i := 4) (N := some 110) #[true, true, true, true, true, true, true, true, true, false, false, false, false, false] rfl rfl (by kernel_rfl) (by decide) (fun K hK => ?_)
                refine app_lit_step (C := w.heap.size) (.tmp 107) (.tmp 109) (v := vP) (xs := ps) (kk) ?_ ?_ ?_ ?_ hst.P hb1 hst.le (by omega) ?_
                · rfl
                · rfl
                · rfl
                · rfl
                intro v1 w1 hr1 hg1 ho1
                have hb2' := lit_kept hb2 hd2 hg1
                clear hb2 hd2
                have hb2 := hb2'
                clear hb2'
                have hs9 := hst.growP hr1 hg1 ho1
                clear hr1 hg1 ho1 hst hb1
                have hst := hs9
                clear hs9
                refine hK.out _ _ ⟨blk_cell hst.box 2, blk_cell hst.box 3⟩ (fun hHeld => ?_)
                clear hK K
                refine norm_ (a' := ?_) ?_ ?_
                rotate_left
                · show Act.put _ (some 110) _ = _
                  simp only [Act.put, List.setIfInBounds_toArray, List.set_cons_zero, List.set_cons_succ, i64_w, i32_w]
                  rfl
                refine pure_ (i := 10) (N := some 116) (v := ?_) (a' := ?_) #[true, true, true, true, true, true, true, true, true, false, true, false, false, false] rfl rfl (by kernel_rfl) (fun _ _ _ h => h) (Or.inl ⟨by rfl, ?_⟩) ?_ ?_
                rotate_left
                · intro w'
                  go_simp
                  with_reducible rfl
                rotate_left
                · simp only [Act.put, List.setIfInBounds_toArray, List.set_cons_zero, List.set_cons_succ, i64_w, i32_w]
                  rfl
                exact norm_ (by simp only [putAll, Act.put, List.setIfInBounds_toArray, List.set_cons_zero, List.set_cons_succ]) (hCont (⟨w7.heap.size, v1, w7.heap.size + 1⟩ : Nat × Value × Nat) _ ⟨⟨blk_cell hst.box 2, blk_cell hst.box 3⟩, hst, hb2⟩)
            · skip
              refine value_ (w1 := ?_) (v := ?_) (by rfl) rfl ?_ ?_
              rotate_left 2
              · go_simp
                constructor
                · rfl
                · rfl
              have hb2 : (w7.drew.alloc (.cells #[.int .i64 (ee)] 3 (0, 0))).heap[w7.heap.size]? = some (.cells #[.int .i64 (ee)] 3 (0, 0)) := by simpa using blk_new w7.drew (.cells #[.int .i64 (ee)] 3 (0, 0))
              have hd2 : ∀ j, (vP).ownBlock = some j → j ≠ w7.heap.size := fun j hj => Nat.ne_of_lt (by have h9 := hst.P.lt j hj; simp at h9; omega)
              have hs9 := hst.new (below_alloc (Below.refl _ _) (.cells #[.int .i64 (ee)] 3 (0, 0)))
              clear hst
              have hst := hs9
              clear hs9
              refine hK.out _ _ ⟨blk_cell hst.box 2, blk_cell hst.box 3⟩ (fun hHeld => ?_)
              clear hK K
              refine norm_ (a' := ?_) ?_ ?_
              rotate_left
              · show Act.put _ (some 114) _ = _
                simp only [Act.put, List.setIfInBounds_toArray, List.set_cons_zero, List.set_cons_succ, i64_w, i32_w]
                rfl
              refine one_ (i := 3) (N := some 109) #[true, true, true, true, false, true, true, true, true, false, false, false, false, false] rfl rfl (by kernel_rfl) (by decide) (fun K hK => ?_)
              refine value_ (w1 := ?_) (v := ?_) (by rfl) rfl ?_ ?_
              rotate_left 2
              · go_simp
                constructor
                · rfl
                · rfl
              have hb1 : ((w7.drew.alloc (.cells #[.int .i64 (ee)] 3 (0, 0))).alloc (.cells #[.int .i64 (kk)] 3 (0, 0))).heap[w7.heap.size + 1]? = some (.cells #[.int .i64 (kk)] 3 (0, 0)) := by simpa using blk_new (w7.drew.alloc (.cells #[.int .i64 (ee)] 3 (0, 0))) (.cells #[.int .i64 (kk)] 3 (0, 0))
              have hb2' : ((w7.drew.alloc (.cells #[.int .i64 (ee)] 3 (0, 0))).alloc (.cells #[.int .i64 (kk)] 3 (0, 0))).heap[_]? = some _ := blk_alloc hb2 (.cells #[.int .i64 (kk)] 3 (0, 0))
              clear hb2
              have hb2 := hb2'
              clear hb2'
              have hs9 := hst.new (below_alloc (Below.refl _ _) (.cells #[.int .i64 (kk)] 3 (0, 0)))
              clear hst
              have hst := hs9
              clear hs9
              refine hK.out _ _ ⟨blk_cell hst.box 2, blk_cell hst.box 3⟩ (fun hHeld => ?_)
              clear hK K
              refine norm_ (a' := ?_) ?_ ?_
              rotate_left
              · show Act.put _ (some 109) _ = _
                simp only [Act.put, List.setIfInBounds_toArray, List.set_cons_zero, List.set_cons_succ, i64_w, i32_w]
                rfl
              refine one_ (i := 4) (N := some 110) #[true, true, true, true, true, true, true, true, true, false, false, false, false, false] rfl rfl (by kernel_rfl) (by decide) (fun K hK => ?_)
              refine app_lit_step (C := w.heap.size) (.tmp 107) (.tmp 109) (v := vP) (xs := ps) (kk) ?_ ?_ ?_ ?_ hst.P hb1 hst.le (by omega) ?_
              · rfl
              · rfl
              · rfl
              · rfl
              intro v1 w1 hr1 hg1 ho1
              have hb2' := lit_kept hb2 hd2 hg1
              clear hb2 hd2
              have hb2 := hb2'
              clear hb2'
              have hs9 := hst.growP hr1 hg1 ho1
              clear hr1 hg1 ho1 hst hb1
              have hst := hs9
              clear hs9
              refine hK.out _ _ ⟨blk_cell hst.box 2, blk_cell hst.box 3⟩ (fun hHeld => ?_)
              clear hK K
              refine norm_ (a' := ?_) ?_ ?_
              rotate_left
              · show Act.put _ (some 110) _ = _
                simp only [Act.put, List.setIfInBounds_toArray, List.set_cons_zero, List.set_cons_succ, i64_w, i32_w]
                rfl
              refine pure_ (i := 10) (N := some 116) (v := ?_) (a' := ?_) #[true, true, true, true, true, true, true, true, true, false, true, false, false, false] rfl rfl (by kernel_rfl) (fun _ _ _ h => h) (Or.inl ⟨by rfl, ?_⟩) ?_ ?_
              rotate_left
              · intro w'
                go_simp
                with_reducible rfl
              rotate_left
              · simp only [Act.put, List.setIfInBounds_toArray, List.set_cons_zero, List.set_cons_succ, i64_w, i32_w]
                rfl
              exact norm_ (by simp only [putAll, Act.put, List.setIfInBounds_toArray, List.set_cons_zero, List.set_cons_succ]) (hCont (⟨w7.heap.size + 1, v1, w7.heap.size⟩ : Nat × Value × Nat) _ ⟨⟨blk_cell hst.box 2, blk_cell hst.box 3⟩, hst, hb2⟩)
          rintro ⟨b1, v1, b2⟩ w5 ⟨hHeld, hst, hb2⟩
          refine norm_ (a' := ?_) ?_ ?_
          rotate_left
          · simp only [putAll, Act.put, List.setIfInBounds_toArray, List.set_cons_zero, List.set_cons_succ]
            rfl
          refine one_ (i := 9) (N := some 115) #[true, true, true, true, true, true, true, true, true, true, true, false, false, false] rfl rfl (by kernel_rfl) (by decide) (fun K hK => ?_)
          refine app_lit_step (C := w.heap.size) (.tmp 112) (.tmp 114) (v := vE) (xs := es) (ee) ?_ ?_ ?_ ?_ hst.E hb2 hst.le (by omega) ?_
          · rfl
          · rfl
          · rfl
          · rfl
          intro v2 w6 hr2 hg2 ho2
          have hs9 := hst.growE hr2 hg2 ho2
          clear hr2 hg2 ho2 hst hb2
          have hst := hs9
          clear hs9
          obtain ⟨A1_, n1_, c1_, e1_⟩ := hst.P.shape
          subst e1_
          obtain ⟨A2_, n2_, c2_, e2_⟩ := hst.E.shape
          subst e2_
          have cP_ := blk_cell hst.box 2
          have cE_ := blk_cell hst.box 3
          have fP_ := blk_frozen hst.box 2
          have fE_ := blk_frozen hst.box 3
          refine hK.out _ _ ⟨blk_cell hst.box 2, blk_cell hst.box 3⟩ (fun hHeld => ?_)
          clear hK K
          refine norm_ (a' := ?_) ?_ ?_
          rotate_left
          · show Act.put _ (some 115) _ = _
            simp only [Act.put, List.setIfInBounds_toArray, List.set_cons_zero, List.set_cons_succ, i64_w, i32_w]
            rfl
          refine last_ (i := 11) (N := none) #[true, true, true, true, true, true, true, true, true, true, true, true, false, false] rfl rfl (by kernel_rfl) (by decide) (fun K hK => ?_)
          refine skip_ (w1 := ?_) (by rfl) rfl ?_ ?_
          rotate_left
          · go_simp
            rfl
          refine hK.out _ _ ?_
          clear hK K
          refine pure_ (i := 12) (N := some 117) (v := ?_) (a' := ?_) #[true, true, true, true, true, true, true, true, true, true, true, true, true, false] rfl rfl (by kernel_rfl) (fun _ _ _ h => h) (Or.inl ⟨by rfl, ?_⟩) ?_ ?_
          rotate_left
          · intro w'
            go_simp
            with_reducible rfl
          rotate_left
          · simp only [Act.put, List.setIfInBounds_toArray, List.set_cons_zero, List.set_cons_succ, i64_w, i32_w]
            rfl
          refine last_ (i := 13) (N := none) #[true, true, true, true, true, true, true, true, true, true, true, true, true, true] rfl rfl (by kernel_rfl) (by decide) (fun K hK => ?_)
          refine skip_ (w1 := ?_) (by rfl) rfl ?_ ?_
          rotate_left
          · go_simp
            rfl
          refine hK.out _ _ ?_
          clear hK K
          refine done_ (by kernel_rfl) ?_
          have hs9 := (hst.put 2 (.slice A1_ n1_ c1_) (cells2 := #[.int .i64 1, .int .i64 oI, (.slice A1_ n1_ c1_), vE]) rfl).put 3 (.slice A2_ n2_ c2_) (cells2 := #[.int .i64 1, .int .i64 oI, (.slice A1_ n1_ c1_), (.slice A2_ n2_ c2_)]) rfl
          clear hst cP_ cE_ fP_ fE_
          have hst := hs9
          clear hs9
          have HST9 := Aside0.mk (HST8.out.two h713 hg13 hBw hst)
          clear hst HST8
          go_wp2
          go_roundw
          case rel => exact ⟨i + 1, _, _, al ++ L, ps ++ [kk], es ++ [ee], q9, by omega, by go_num, hpat, by have := HAL.out; rw [List.length_append]; omega, by rw [List.length_append, HPS.out]; rfl, by rw [List.length_append, HES.out]; rfl, HST9, ⟨by rw [HD.out]; exact HX3.out⟩⟩
          case measure => simp [intOf]; omega
      · have hne : ((i : Int) == 0) = false := beq_eq_false_iff_ne.mpr hi0
        have hkn2 : n = k := by omega
        clear hk2 hi0 HK
        subst hkn2
        obtain ⟨hsr, hr0⟩ := HRR.out
        go_wp2_with fail
        clear hsr hr0
        with_reducible refine HPART.out.mono ?_
        rintro e w6 ⟨v6, rfl, hl6, hr6, ht6⟩
        have hst6 := HST.out.turn hr6 ht6 hb7 (fun h => hg13 h.symm)
        have HL6 := Aside0.mk hl6
        have HST6 := Aside0.mk hst6
        have hsz6 := ht6.kept.1
        clear hl6 hr6 ht6 hst6 HPART c0 c1
        cases her : er == 0 with
        | false =>
          have HXN : Aside0 (X = none) := ⟨by have := HX2.out; rw [if_neg (by simpa using her)] at this; exact this.symm⟩
          go_wp2_with ((with_reducible refine wpList_store_row ?_ 24 (.tmp 7) (.tmp 102) ?_ w.heap.size zRice ?_ ?_ 24 zRice HST6.out.z7 (rc_info _ _ _ _) ?_ (rc_one _ _ _ _ _ _ _ _) ?_); rfl; rfl; rfl; rfl; rfl)
          refine bodyPost_ret (results_tct rfl _ _ w.heap.size 24 zRice (0, 0) _ rfl (setRow_heap _ _ _ _ _ _ HST6.out.z7) Try.underlying24 rfl (rc_info _ _ _ _)) rfl ?_
          exact .inl ⟨HXN.out, rfl, ⟨q9, HST6.out.rd.setRow hb7, hpat⟩, HST6.out.tn.setRow (Nat.le_refl _) hBw⟩
        | true =>
          have her2 : er = 0 := by simpa using her
          have HX3 : Aside0 (decL s n Oq 5 d (i + 1) (al ++ L) (ps ++ [kk]) (es ++ [ee]) q9 = X) := ⟨by have := HX2.out; rw [if_pos her2] at this; exact this⟩
          clear HX2 her2
          obtain ⟨A6, c6, e6, hc6, hC6⟩ := HL6.out.C
          subst e6
          have HC6 := Aside0.mk hC6
          have hCw6 : w.heap.size ≤ w6.heap.size := HST6.out.tn.kept.1
          clear hC6
          go_wp2_with (at_builtin; (with_reducible refine app_intlist (w0 := w6) (C := w.heap.size) (v := u14) (xs := al) (ys := L) (A := A6) (c := c6) (.tmp 103) (.tmp 104) ?_ ?_ ?_ ?_ ?_ ?_ ?_ ?_ ?_ ?_); rfl; rfl; rfl; rfl; exact HST6.out.U; exact HC6.out; exact Below.refl _ _; exact hCw6; omega; intro v7 w7 HI7 HB7 HG7 HO7)
          have HST7 := Aside0.mk (HST6.out.all hBw HI7.out HG7.out HO7.out)
          clear HI7 HB7 HG7 HO7 HST6 HC6 HL6
          have hst8 := HST7.out.below hB (below_drew (Below.refl w7.heap.size w7))
          have HST8 := Aside0.mk hst8
          have hst := TwoRows.start hst8.r13 (by decide) hst8.P hst8.E hst8.d3 hB13
          have hpl : ps.length ≤ 65536 := by have := HPS.out; omega
          have hel : es.length ≤ 65536 := by have := HES.out; omega
          clear hst8 HST7
          refine start_ (n := 14) (S := fun w' => w'.cell? ⟨b13, 2, none⟩ = some (vP) ∧ w'.cell? ⟨b13, 3, none⟩ = some (vE)) (ds := [11, 13]) #[false, false, false, false, false, false, false, false, false, false, false, false, false, false] (by kernel_rfl) rfl rfl ⟨blk_cell hst.box 2, blk_cell hst.box 3⟩ (fun hHeld => ?_)
          refine pure_ (i := 0) (N := some 106) (v := ?_) (a' := ?_) #[true, false, false, false, false, false, false, false, false, false, false, false, false, false] rfl rfl (by kernel_rfl) (fun _ _ _ h => h) (Or.inl ⟨by rfl, ?_⟩) ?_ ?_
          rotate_left
          · intro w'
            go_simp
            with_reducible rfl
          rotate_left
          · simp only [Act.put, List.setIfInBounds_toArray, List.set_cons_zero, List.set_cons_succ, i64_w, i32_w]
            rfl
          refine pure_ (i := 2) (N := some 108) (v := ?_) (a' := ?_) #[true, false, true, false, false, false, false, false, false, false, false, false, false, false] rfl rfl (by kernel_rfl) (fun _ _ _ h => h) (Or.inl ⟨by rfl, ?_⟩) ?_ ?_
          rotate_left
          · intro w'
            go_simp
            with_reducible rfl
          rotate_left
          · simp only [Act.put, List.setIfInBounds_toArray, List.set_cons_zero, List.set_cons_succ, i64_w, i32_w]
            rfl
          refine pure_ (i := 5) (N := some 111) (v := ?_) (a' := ?_) #[true, false, true, false, false, true, false, false, false, false, false, false, false, false] rfl rfl (by kernel_rfl) (fun _ _ _ h => h) (Or.inl ⟨by rfl, ?_⟩) ?_ ?_
          rotate_left
          · intro w'
            go_simp
            with_reducible rfl
          rotate_left
          · simp only [Act.put, List.setIfInBounds_toArray, List.set_cons_zero, List.set_cons_succ, i64_w, i32_w]
            rfl
          refine pure_ (i := 7) (N := some 113) (v := ?_) (a' := ?_) #[true, false, true, false, false, true, false, true, false, false, false, false, false, false] rfl rfl (by kernel_rfl) (fun _ _ _ h => h) (Or.inl ⟨by rfl, ?_⟩) ?_ ?_
          rotate_left
          · intro w'
            go_simp
            with_reducible rfl
          rotate_left
          · simp only [Act.put, List.setIfInBounds_toArray, List.set_cons_zero, List.set_cons_succ, i64_w, i32_w]
            rfl
          refine take_ (i := 1) (N := some 107) (v := ?_) (a' := ?_) #[true, true, true, false, false, true, false, true, false, false, false, false, false, false] rfl rfl (by kernel_rfl) (fun _ _ _ h => h) (Or.inl ⟨by rfl, ?_⟩) hHeld ?_ ?_
          rotate_left
          · rintro w' ⟨s0, s1⟩
            go_simp
            with_reducible rfl
          rotate_left
          · simp only [Act.put, List.setIfInBounds_toArray, List.set_cons_zero, List.set_cons_succ, i64_w, i32_w]
            rfl
          refine take_ (i := 6) (N := some 112) (v := ?_) (a' := ?_) #[true, true, true, false, false, true, true, true, false, false, false, false, false, false] rfl rfl (by kernel_rfl) (fun _ _ _ h => h) (Or.inl ⟨by rfl, ?_⟩) hHeld ?_ ?_
          rotate_left
          · rintro w' ⟨s0, s1⟩
            go_simp
            with_reducible rfl
          rotate_left
          · simp only [Act.put, List.setIfInBounds_toArray, List.set_cons_zero, List.set_cons_succ, i64_w, i32_w]
            rfl
          refine join_ (σ := Nat × Value × Nat) 4 #[true, true, true, true, true, true, true, true, true, false, true, false, false, false] (fun s_ => [(109, .slice (some ⟨s_.1, 0, none⟩) 1 1), (110, s_.2.1), (114, .slice (some ⟨s_.2.2, 0, none⟩) 1 1), (116, .pointer (some ⟨b13, 2, none⟩))]) (fun s_ w' => (w'.cell? ⟨b13, 2, none⟩ = some (vP) ∧ w'.cell? ⟨b13, 3, none⟩ = some (vE)) ∧ TwoRows w.heap.size b13 24 w7.drew (vP) (vE) w' #[.int .i64 1, .int .i64 oI, vP, vE] s_.2.1 (vE) (ps ++ [kk]) (es) ∧ w'.heap[s_.2.2]? = some (.cells #[.int .i64 (ee)] 3 (0, 0))) ?_ ?_
          rotate_left
          · intro hCont
            refine two_ (i := 3) (j := 8) (Ni := some 109) (Nj := some 114) #[true, true, true, true, false, true, true, true, false, false, false, false, false, false] #[true, true, true, false, false, true, true, true, true, false, false, false, false, false] rfl rfl rfl rfl (by kernel_rfl) (by decide) (by decide) (fun K hK => ?_) (fun K hK => ?_)
            · skip
              refine value_ (w1 := ?_) (v := ?_) (by rfl) rfl ?_ ?_
              rotate_left 2
              · go_simp
                constructor
                · rfl
                · rfl
              have hb1 : (w7.drew.alloc (.cells #[.int .i64 (kk)] 3 (0, 0))).heap[w7.heap.size]? = some (.cells #[.int .i64 (kk)] 3 (0, 0)) := by simpa using blk_new w7.drew (.cells #[.int .i64 (kk)] 3 (0, 0))
              have hs9 := hst.new (below_alloc (Below.refl _ _) (.cells #[.int .i64 (kk)] 3 (0, 0)))
              clear hst
              have hst := hs9
              clear hs9
              refine hK.out _ _ ⟨blk_cell hst.box 2, blk_cell hst.box 3⟩ (fun hHeld => ?_)
              clear hK K
              refine norm_ (a' := ?_) ?_ ?_
              rotate_left
              · show Act.put _ (some 109) _ = _
                simp only [Act.put, List.setIfInBounds_toArray, List.set_cons_zero, List.set_cons_succ, i64_w, i32_w]
                rfl
              refine two_ (i := 4) (j := 8) (Ni := some 110) (Nj := some 114) #[true, true, true, true, true, true, true, true, false, false, false, false, false, false] #[true, true, true, true, false, true, true, true, true, false, false, false, false, false] rfl rfl rfl rfl (by kernel_rfl) (by decide) (by decide) (fun K hK => ?_) (fun K hK => ?_)
              · skip
                refine app_lit_step (C := w.heap.size) (.tmp 107) (.tmp 109) (v := vP) (xs := ps) (kk) ?_ ?_ ?_ ?_ hst.P hb1 hst.le (by omega) ?_
                · rfl
                · rfl
                · rfl
                · rfl
                intro v1 w1 hr1 hg1 ho1
                have hs9 := hst.growP hr1 hg1 ho1
                clear hr1 hg1 ho1 hst hb1
                have hst := hs9
                clear hs9
                refine hK.out _ _ ⟨blk_cell hst.box 2, blk_cell hst.box 3⟩ (fun hHeld => ?_)
                clear hK K
                refine norm_ (a' := ?_) ?_ ?_
                rotate_left
                · show Act.put _ (some 110) _ = _
                  simp only [Act.put, List.setIfInBounds_toArray, List.set_cons_zero, List.set_cons_succ, i64_w, i32_w]
                  rfl
                refine pure_ (i := 10) (N := some 116) (v := ?_) (a' := ?_) #[true, true, true, true, true, true, true, true, false, false, true, false, false, false] rfl rfl (by kernel_rfl) (fun _ _ _ h => h) (Or.inl ⟨by rfl, ?_⟩) ?_ ?_
                rotate_left
                · intro w'
                  go_simp
                  with_reducible rfl
                rotate_left
                · simp only [Act.put, List.setIfInBounds_toArray, List.set_cons_zero, List.set_cons_succ, i64_w, i32_w]
                  rfl
                refine one_ (i := 8) (N := some 114) #[true, true, true, true, true, true, true, true, true, false, true, false, false, false] rfl rfl (by kernel_rfl) (by decide) (fun K hK => ?_)
                refine value_ (w1 := ?_) (v := ?_) (by rfl) rfl ?_ ?_
                rotate_left 2
                · go_simp
                  constructor
                  · rfl
                  · rfl
                have hb2 : (w1.alloc (.cells #[.int .i64 (ee)] 3 (0, 0))).heap[w1.heap.size]? = some (.cells #[.int .i64 (ee)] 3 (0, 0)) := by simpa using blk_new w1 (.cells #[.int .i64 (ee)] 3 (0, 0))
                have hs9 := hst.new (below_alloc (Below.refl _ _) (.cells #[.int .i64 (ee)] 3 (0, 0)))
                clear hst
                have hst := hs9
                clear hs9
                refine hK.out _ _ ⟨blk_cell hst.box 2, blk_cell hst.box 3⟩ (fun hHeld => ?_)
                clear hK K
                refine norm_ (a' := ?_) ?_ ?_
                rotate_left
                · show Act.put _ (some 114) _ = _
                  simp only [Act.put, List.setIfInBounds_toArray, List.set_cons_zero, List.set_cons_succ, i64_w, i32_w]
                  rfl
                exact norm_ (by simp only [putAll, Act.put, List.setIfInBounds_toArray, List.set_cons_zero, List.set_cons_succ]) (hCont (⟨w7.heap.size, v1, w1.heap.size⟩ : Nat × Value × Nat) _ ⟨⟨blk_cell hst.box 2, blk_cell hst.box 3⟩, hst, hb2⟩)
              · skip
                refine value_ (w1 := ?_) (v := ?_) (by rfl) rfl ?_ ?_
                rotate_left 2
                · go_simp
                  constructor
                  · rfl
                  · rfl
                have hb2 : ((w7.drew.alloc (.cells #[.int .i64 (kk)] 3 (0, 0))).alloc (.cells #[.int .i64 (ee)] 3 (0, 0))).heap[w7.heap.size + 1]? = some (.cells #[.int .i64 (ee)] 3 (0, 0)) := by simpa using blk_new (w7.drew.alloc (.cells #[.int .i64 (kk)] 3 (0, 0))) (.cells #[.int .i64 (ee)] 3 (0, 0))
                have hd2 : ∀ j, (vP).ownBlock = some j → j ≠ w7.heap.size + 1 := fun j hj => Nat.ne_of_lt (by have h9 := hst.P.lt j hj; simp at h9; omega)
                have hb1' : ((w7.drew.alloc (.cells #[.int .i64 (kk)] 3 (0, 0))).alloc (.cells #[.int .i64 (ee)] 3 (0, 0))).heap[_]? = some _ := blk_alloc hb1 (.cells #[.int .i64 (ee)] 3 (0, 0))
                clear hb1
                have hb1 := hb1'
                clear hb1'
                have hs9 := hst.new (below_alloc (Below.refl _ _) (.cells #[.int .i64 (ee)] 3 (0, 0)))
                clear hst
                have hst := hs9
                clear hs9
                refine hK.out _ _ ⟨blk_cell hst.box 2, blk_cell hst.box 3⟩ (fun hHeld => ?_)
                clear hK K
                refine norm_ (a' := ?_) ?_ ?_
                rotate_left
                · show Act.put _ (some 114) _ = _
                  simp only [Act.put, List.setIfInBounds_toArray, List.set_cons_zero, List.set_cons_succ, i64_w, i32_w]
                  rfl
                refine one_ (i := 4) (N := some 110) #[true, true, true, true, true, true, true, true, true, false, false, false, false, false] rfl rfl (by kernel_rfl) (by decide) (fun K hK => ?_)
                refine app_lit_step (C := w.heap.size) (.tmp 107) (.tmp 109) (v := vP) (xs := ps) (kk) ?_ ?_ ?_ ?_ hst.P hb1 hst.le (by omega) ?_
                · rfl
                · rfl
                · rfl
                · rfl
                intro v1 w1 hr1 hg1 ho1
                have hb2' := lit_kept hb2 hd2 hg1
                clear hb2 hd2
                have hb2 := hb2'
                clear hb2'
                have hs9 := hst.growP hr1 hg1 ho1
                clear hr1 hg1 ho1 hst hb1
                have hst := hs9
                clear hs9
                refine hK.out _ _ ⟨blk_cell hst.box 2, blk_cell hst.box 3⟩ (fun hHeld => ?_)
                clear hK K
                refine norm_ (a' := ?_) ?_ ?_
                rotate_left
                · show Act.put _ (some 110) _ = _
                  simp only [Act.put, List.setIfInBounds_toArray, List.set_cons_zero, List.set_cons_succ, i64_w, i32_w]
                  rfl
                refine pure_ (i := 10) (N := some 116) (v := ?_) (a' := ?_) #[true, true, true, true, true, true, true, true, true, false, true, false, false, false] rfl rfl (by kernel_rfl) (fun _ _ _ h => h) (Or.inl ⟨by rfl, ?_⟩) ?_ ?_
                rotate_left
                · intro w'
                  go_simp
                  with_reducible rfl
                rotate_left
                · simp only [Act.put, List.setIfInBounds_toArray, List.set_cons_zero, List.set_cons_succ, i64_w, i32_w]
                  rfl
                exact norm_ (by simp only [putAll, Act.put, List.setIfInBounds_toArray, List.set_cons_zero, List.set_cons_succ]) (hCont (⟨w7.heap.size, v1, w7.heap.size + 1⟩ : Nat × Value × Nat) _ ⟨⟨blk_cell hst.box 2, blk_cell hst.box 3⟩, hst, hb2⟩)
            · skip
              refine value_ (w1 := ?_) (v := ?_) (by rfl) rfl ?_ ?_
              rotate_left 2
              · go_simp
                constructor
                · rfl
                · rfl
              have hb2 : (w7.drew.alloc (.cells #[.int .i64 (ee)] 3 (0, 0))).heap[w7.heap.size]? = some (.cells #[.int .i64 (ee)] 3 (0, 0)) := by simpa using blk_new w7.drew (.cells #[.int .i64 (ee)] 3 (0, 0))
              have hd2 : ∀ j, (vP).ownBlock = some j → j ≠ w7.heap.size := fun j hj => Nat.ne_of_lt (by have h9 := hst.P.lt j hj; simp at h9; omega)
              have hs9 := hst.new (below_alloc (Below.refl _ _) (.cells #[.int .i64 (ee)] 3 (0, 0)))
              clear hst
              have hst := hs9
              clear hs9
              refine hK.out _ _ ⟨blk_cell hst.box 2, blk_cell hst.box 3⟩ (fun hHeld => ?_)
              clear hK K
              refine norm_ (a' := ?_) ?_ ?_
              rotate_left
              · show Act.put _ (some 114) _ = _
                simp only [Act.put, List.setIfInBounds_toArray, List.set_cons_zero, List.set_cons_succ, i64_w, i32_w]
                rfl
              refine one_ (i := 3) (N := some 109) #[true, true, true, true, false, true, true, true, true, false, false, false, false, false] rfl rfl (by kernel_rfl) (by decide) (fun K hK => ?_)
              refine value_ (w1 := ?_) (v := ?_) (by rfl) rfl ?_ ?_
              rotate_left 2
              · go_simp
                constructor
                · rfl
                · rfl
              have hb1 : ((w7.drew.alloc (.cells #[.int .i64 (ee)] 3 (0, 0))).alloc (.cells #[.int .i64 (kk)] 3 (0, 0))).heap[w7.heap.size + 1]? = some (.cells #[.int .i64 (kk)] 3 (0, 0)) := by simpa using blk_new (w7.drew.alloc (.cells #[.int .i64 (ee)] 3 (0, 0))) (.cells #[.int .i64 (kk)] 3 (0, 0))
              have hb2' : ((w7.drew.alloc (.cells #[.int .i64 (ee)] 3 (0, 0))).alloc (.cells #[.int .i64 (kk)] 3 (0, 0))).heap[_]? = some _ := blk_alloc hb2 (.cells #[.int .i64 (kk)] 3 (0, 0))
              clear hb2
              have hb2 := hb2'
              clear hb2'
              have hs9 := hst.new (below_alloc (Below.refl _ _) (.cells #[.int .i64 (kk)] 3 (0, 0)))
              clear hst
              have hst := hs9
              clear hs9
              refine hK.out _ _ ⟨blk_cell hst.box 2, blk_cell hst.box 3⟩ (fun hHeld => ?_)
              clear hK K
              refine norm_ (a' := ?_) ?_ ?_
              rotate_left
              · show Act.put _ (some 109) _ = _
                simp only [Act.put, List.setIfInBounds_toArray, List.set_cons_zero, List.set_cons_succ, i64_w, i32_w]
                rfl
              refine one_ (i := 4) (N := some 110) #[true, true, true, true, true, true, true, true, true, false, false, false, false, false] rfl rfl (by kernel_rfl) (by decide) (fun K hK => ?_)
              refine app_lit_step (C := w.heap.size) (.tmp 107) (.tmp 109) (v := vP) (xs := ps) (kk) ?_ ?_ ?_ ?_ hst.P hb1 hst.le (by omega) ?_
              · rfl
              · rfl
              · rfl
              · rfl
              intro v1 w1 hr1 hg1 ho1
              have hb2' := lit_kept hb2 hd2 hg1
              clear hb2 hd2
              have hb2 := hb2'
              clear hb2'
              have hs9 := hst.growP hr1 hg1 ho1
              clear hr1 hg1 ho1 hst hb1
              have hst := hs9
              clear hs9
              refine hK.out _ _ ⟨blk_cell hst.box 2, blk_cell hst.box 3⟩ (fun hHeld => ?_)
              clear hK K
              refine norm_ (a' := ?_) ?_ ?_
              rotate_left
              · show Act.put _ (some 110) _ = _
                simp only [Act.put, List.setIfInBounds_toArray, List.set_cons_zero, List.set_cons_succ, i64_w, i32_w]
                rfl
              refine pure_ (i := 10) (N := some 116) (v := ?_) (a' := ?_) #[true, true, true, true, true, true, true, true, true, false, true, false, false, false] rfl rfl (by kernel_rfl) (fun _ _ _ h => h) (Or.inl ⟨by rfl, ?_⟩) ?_ ?_
              rotate_left
              · intro w'
                go_simp
                with_reducible rfl
              rotate_left
              · simp only [Act.put, List.setIfInBounds_toArray, List.set_cons_zero, List.set_cons_succ, i64_w, i32_w]
                rfl
              exact norm_ (by simp only [putAll, Act.put, List.setIfInBounds_toArray, List.set_cons_zero, List.set_cons_succ]) (hCont (⟨w7.heap.size + 1, v1, w7.heap.size⟩ : Nat × Value × Nat) _ ⟨⟨blk_cell hst.box 2, blk_cell hst.box 3⟩, hst, hb2⟩)
          rintro ⟨b1, v1, b2⟩ w5 ⟨hHeld, hst, hb2⟩
          refine norm_ (a' := ?_) ?_ ?_
          rotate_left
          · simp only [putAll, Act.put, List.setIfInBounds_toArray, List.set_cons_zero, List.set_cons_succ]
            rfl
          refine one_ (i := 9) (N := some 115) #[true, true, true, true, true, true, true, true, true, true, true, false, false, false] rfl rfl (by kernel_rfl) (by decide) (fun K hK => ?_)
          refine app_lit_step (C := w.heap.size) (.tmp 112) (.tmp 114) (v := vE) (xs := es) (ee) ?_ ?_ ?_ ?_ hst.E hb2 hst.le (by omega) ?_
          · rfl
          · rfl
          · rfl
          · rfl
          intro v2 w6 hr2 hg2 ho2
          have hs9 := hst.growE hr2 hg2 ho2
          clear hr2 hg2 ho2 hst hb2
          have hst := hs9
          clear hs9
          obtain ⟨A1_, n1_, c1_, e1_⟩ := hst.P.shape
          subst e1_
          obtain ⟨A2_, n2_, c2_, e2_⟩ := hst.E.shape
          subst e2_
          have cP_ := blk_cell hst.box 2
          have cE_ := blk_cell hst.box 3
          have fP_ := blk_frozen hst.box 2
          have fE_ := blk_frozen hst.box 3
          refine hK.out _ _ ⟨blk_cell hst.box 2, blk_cell hst.box 3⟩ (fun hHeld => ?_)
          clear hK K
          refine norm_ (a' := ?_) ?_ ?_
          rotate_left
          · show Act.put _ (some 115) _ = _
            simp only [Act.put, List.setIfInBounds_toArray, List.set_cons_zero, List.set_cons_succ, i64_w, i32_w]
            rfl
          refine last_ (i := 11) (N := none) #[true, true, true, true, true, true, true, true, true, true, true, true, false, false] rfl rfl (by kernel_rfl) (by decide) (fun K hK => ?_)
          refine skip_ (w1 := ?_) (by rfl) rfl ?_ ?_
          rotate_left
          · go_simp
            rfl
          refine hK.out _ _ ?_
          clear hK K
          refine pure_ (i := 12) (N := some 117) (v := ?_) (a' := ?_) #[true, true, true, true, true, true, true, true, true, true, true, true, true, false] rfl rfl (by kernel_rfl) (fun _ _ _ h => h) (Or.inl ⟨by rfl, ?_⟩) ?_ ?_
          rotate_left
          · intro w'
            go_simp
            with_reducible rfl
          rotate_left
          · simp only [Act.put, List.setIfInBounds_toArray, List.set_cons_zero, List.set_cons_succ, i64_w, i32_w]
            rfl
          refine last_ (i := 13) (N := none) #[true, true, true, true, true, true, true, true, true, true, true, true, true, true] rfl rfl (by kernel_rfl) (by decide) (fun K hK => ?_)
          refine skip_ (w1 := ?_) (by rfl) rfl ?_ ?_
          rotate_left
          · go_simp
            rfl
          refine hK.out _ _ ?_
          clear hK K
          refine done_ (by kernel_rfl) ?_
          have hs9 := (hst.put 2 (.slice A1_ n1_ c1_) (cells2 := #[.int .i64 1, .int .i64 oI, (.slice A1_ n1_ c1_), vE]) rfl).put 3 (.slice A2_ n2_ c2_) (cells2 := #[.int .i64 1, .int .i64 oI, (.slice A1_ n1_ c1_), (.slice A2_ n2_ c2_)]) rfl
          clear hst cP_ cE_ fP_ fE_
          have hst := hs9
          clear hs9
          have HST9 := Aside0.mk (HST8.out.two h713 hg13 hBw hst)
          clear hst HST8
          go_wp2
          go_roundw
          case rel => exact ⟨i + 1, _, _, al ++ L, ps ++ [kk], es ++ [ee], q9, by omega, by go_num, hpat, by have := HAL.out; rw [List.length_append]; omega, by rw [List.length_append, HPS.out]; rfl, by rw [List.length_append, HES.out]; rfl, HST9, ⟨by rw [HD.out]; exact HX3.out⟩⟩
          case measure => simp [intOf]; omega
    · obtain rfl : i = N := by omega
      have hXS : X = some (al, ps, es, q) := by have := HX.out; rw [Nat.sub_self] at this; exact this.symm
      have HXS := Aside0.mk hXS
      clear hXS HX
      obtain ⟨AP_, nP_, cP_, eP_⟩ := HST.out.P.shape
      subst eP_
      obtain ⟨AE_, nE_, cE_, eE_⟩ := HST.out.E.shape
      subst eE_
      have i2 : ¬ (i : Int) < (i : Int) := Int.lt_irrefl _
      have hst := HST.out.below hB (below_drew (Below.refl wr.heap.size wr))
      clear HST
      go_wp2
      refine start_ (n := 5) (S := fun w' => w'.cell? ⟨b13, 0, none⟩ = some (.int .i64 1) ∧ w'.cell? ⟨b13, 1, none⟩ = some (.int .i64 oI) ∧ w'.cell? ⟨b13, 2, none⟩ = some (.slice AP_ nP_ cP_) ∧ w'.cell? ⟨b13, 3, none⟩ = some (.slice AE_ nE_ cE_)) (ds := [3]) #[false, false, false, false, false] (by kernel_rfl) rfl rfl ⟨blk_cell hst.r13 0, blk_cell hst.r13 1, blk_cell hst.r13 2, blk_cell hst.r13 3⟩ (fun hHeld => ?_)
      refine pure_ (i := 0) (N := some 119) (v := ?_) (a' := ?_) #[true, false, false, false, false] rfl rfl (by kernel_rfl) (fun _ _ _ h => h) (Or.inl ⟨by rfl, ?_⟩) ?_ ?_
      rotate_left
      · intro w'
        go_simp
        with_reducible rfl
      rotate_left
      · simp only [Act.put, List.setIfInBounds_toArray, List.set_cons_zero, List.set_cons_succ, i64_w, i32_w]
        rfl
      refine pure_ (i := 2) (N := some 6) (v := ?_) (a' := ?_) #[true, false, true, false, false] rfl rfl (by kernel_rfl) (fun _ _ _ h => h) (Or.inl ⟨by rfl, ?_⟩) ?_ ?_
      rotate_left
      · intro w'
        go_simp
        with_reducible rfl
      rotate_left
      · simp only [Act.put, List.setIfInBounds_toArray, List.set_cons_zero, List.set_cons_succ, i64_w, i32_w]
        rfl
      refine take_ (i := 1) (N := some 120) (v := ?_) (a' := ?_) #[true, true, true, false, false] rfl rfl (by kernel_rfl) (fun _ _ _ h => h) (Or.inl ⟨by rfl, ?_⟩) hHeld ?_ ?_
      rotate_left
      · rintro w' ⟨s0, s1, s2, s3⟩
        go_simp
        with_reducible rfl
      rotate_left
      · simp only [Act.put, List.setIfInBounds_toArray, List.set_cons_zero, List.set_cons_succ, i64_w, i32_w]
        rfl
      refine last_ (i := 3) (N := none) #[true, true, true, true, false] rfl rfl (by kernel_rfl) (by decide) (fun K hK => ?_)
      refine store_row_step 24 (.tmp 7) (.tmp 120) ?_ ?_ w.heap.size #[.int .i64 1, .int .i64 oI, .slice AP_ nP_ cP_, .slice AE_ nE_ cE_] ?_ ?_ 24 zRice hst.z7 (rc_info _ _ _ _) ?_ (rc_one _ _ _ _ _ _ _ _) ?_
      · rfl
      · rfl
      · rfl
      · rfl
      · rfl
      refine hK.out _ _ ?_
      clear hK K
      refine pure_ (i := 4) (N := some 8) (v := ?_) (a' := ?_) #[true, true, true, true, true] rfl rfl (by kernel_rfl) (fun _ _ _ h => h) (Or.inl ⟨by rfl, ?_⟩) ?_ ?_
      rotate_left
      · intro w'
        go_simp
        with_reducible rfl
      rotate_left
      · simp only [Act.put, List.setIfInBounds_toArray, List.set_cons_zero, List.set_cons_succ, i64_w, i32_w]
        rfl
      refine done_ (by kernel_rfl) ?_

      go_wp2
      refine bodyPost_ret (results_tct rfl _ _ w.heap.size 24 #[.int .i64 1, .int .i64 oI, .slice AP_ nP_ cP_, .slice AE_ nE_ cE_] (0, 0) _ rfl (setRow_heap _ _ _ _ _ _ hst.z7) Try.underlying24 rfl (rc_info _ _ _ _)) rfl ?_
      exact .inr ⟨al, ps, es, q, _, _, _, HXS.out, rfl, hst.U.setRow hst.z7 (by decide), hst.P.setRow hst.z7 (by decide), hst.E.setRow hst.z7 (by decide), hst.rd.setRow hb7, hq, hst.tn.setRow (Nat.le_refl _) hBw⟩
end Go.Proofs.Ytfhekkoibmlmpaa.Hand
