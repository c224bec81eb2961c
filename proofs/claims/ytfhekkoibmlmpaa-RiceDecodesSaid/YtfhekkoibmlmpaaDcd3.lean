/- Texts of this claim's proof, laid behind each other by a program of ours, without what the proof does not reach: Printed by a program of ours (pp.sh), partly over contracts proved by hand; Printed by a program of ours (pp.sh), partly over contracts proved by hand; Printed by a program of ours (pp.sh), partly over contracts proved by hand; Contracts of layer 1, proved by hand: fold, fits; a writer's Signed, Unary, Rice, Align; Contracts of layer 1, proved by hand: a writer's Rice; Plain words of layer 1: the bits of a text, and what a reader gives; Contracts of layer 1, proved by hand: a reader's Of, At, Left, peek, Get; Contracts of layer 1, proved by hand: a reader's Get; Contracts of layer 1, proved by hand: a reader's Unary -/
import Derived.Laws.StructEq
import Derived.Test.YtfhekkoibmlmpaaDcd1
import Derived.Test.YtfhekkoibmlmpaaDcd2
import Derived.Test.YtfhekkoibmlmpaaDcdWApart
import Derived.Test.YtfhekkoibmlmpaaDcdWFoot
import Derived.Test.YtfhekkoibmlmpaaDcdWGuard
import Derived.Test.YtfhekkoibmlmpaaDcdWInv
import Derived.Test.YtfhekkoibmlmpaaDcdWKept
import Derived.Test.YtfhekkoibmlmpaaDcdWLast
import Derived.Test.YtfhekkoibmlmpaaDcdWMore
import Derived.Test.YtfhekkoibmlmpaaDcdWN
import Derived.Test.YtfhekkoibmlmpaaDcdWRepsOne
import Derived.Test.YtfhekkoibmlmpaaDcdWShare
import Derived.Test.YtfhekkoibmlmpaaDcdWTab
import Derived.Test.YtfhekkoibmlmpaaDcdWWords
/- Printed by a program of ours (pp.sh), partly over contracts proved by hand. -/
namespace Go.Proofs.Ytfhekkoibmlmpaa.Q
open Go.RowKit Go.Proofs.YtfhekkoibmlmpaaW.PrintWords Go.Proofs.YtfhekkoibmlmpaaW.PrintLast Go.Proofs.YtfhekkoibmlmpaaW.PrintMore
attribute [local go_sem] max2_int min2_int max_two min_two max_three min_three max_four min_four   -- for this text's walks alone
set_option linter.unusedVariables false
set_option linter.unusedSimpArgs false

/-! ### lacquerref08_Check: function 19 -/

/-! ### lacquerref08_part: function 35 -/
def lacquerref08_part.f (a0_0 : Int) (a0_1 : Int) (l0_2 : List Int) (l0_3 : List Int) (a1 : Int) (a2 : Int) (a3 : Int) : Option (Int × Int) := if 0 ≤ (IntKind.u64.wrap (a0_1)) then (if a3 = 0 then (some (0, wrap64 ((wrap64 ((wrap64 (a3 + 1)) * (shr .i64 a1 (IntKind.u64.wrap (a0_1))))) - a2))) else (some (wrap64 ((wrap64 (a3 * (shr .i64 a1 (IntKind.u64.wrap (a0_1))))) - a2), wrap64 ((wrap64 ((wrap64 (a3 + 1)) * (shr .i64 a1 (IntKind.u64.wrap (a0_1))))) - a2)))) else (none)
set_option maxHeartbeats 8000000 in
set_option maxRecDepth 100000 in
theorem lacquerref08_part.calls (a0_0 : Int) (a0_1 : Int) (A0_2 : Option Addr) (c0_2 : Nat) (l0_2 : List Int) (A0_3 : Option Addr) (c0_3 : Nat) (l0_3 : List Int) (a1 : Int) (a2 : Int) (a3 : Int) (r1 : Int) (r2 : Int) (w : World) (hr0_2 : Kd.C (Kd.int .i64) w A0_2 l0_2.length l0_2) (hc0_2 : l0_2.length ≤ c0_2) (hr0_3 : Kd.C (Kd.int .i64) w A0_3 l0_3.length l0_3) (hc0_3 : l0_3.length ≤ c0_3) (h : lacquerref08_part.f a0_0 a0_1 l0_2 l0_3 a1 a2 a3 = some (r1, r2)) :
    Calls Try.prog 35 #[.agg #[.int .i64 a0_0, .int .i64 a0_1, .slice A0_2 l0_2.length c0_2, .slice A0_3 l0_3.length c0_3], .int .i64 a1, .int .i64 a2, .int .i64 a3] w fun e w' => e = .returned (.tuple #[.int .i64 r1, .int .i64 r2]) ∧ Below w.heap.size w w' := by
  have hu24 := Try.underlying24
  have HR0_2 := Aside0.mk hr0_2
  have HC0_2 := Aside0.mk hc0_2
  clear hr0_2 hc0_2
  have HR0_3 := Aside0.mk hr0_3
  have HC0_3 := Aside0.mk hc0_3
  clear hr0_3 hc0_3
  have HB := Aside0.mk (Below.refl w.heap.size w)
  have H : (if 0 ≤ (IntKind.u64.wrap (a0_1)) then (if a3 = 0 then (some (0, wrap64 ((wrap64 ((wrap64 (a3 + 1)) * (shr .i64 a1 (IntKind.u64.wrap (a0_1))))) - a2))) else (some (wrap64 ((wrap64 (a3 * (shr .i64 a1 (IntKind.u64.wrap (a0_1))))) - a2), wrap64 ((wrap64 ((wrap64 (a3 + 1)) * (shr .i64 a1 (IntKind.u64.wrap (a0_1))))) - a2)))) else (none)) = some (r1, r2) := h
  clear h
  obtain ⟨ji5, hji5⟩ : ∃ j_ : Int, (IntKind.u64.wrap (a0_1)) = j_ := ⟨_, rfl⟩
  replace H : (if 0 ≤ (ji5) then (if a3 = 0 then (some (0, wrap64 ((wrap64 ((wrap64 (a3 + 1)) * (shr .i64 a1 (ji5)))) - a2))) else (some (wrap64 ((wrap64 (a3 * (shr .i64 a1 (ji5)))) - a2), wrap64 ((wrap64 ((wrap64 (a3 + 1)) * (shr .i64 a1 (ji5)))) - a2)))) else (none)) = some (r1, r2) := by first | (rw [hji5] at H; exact H) | (simp only [hji5] at H ⊢; exact H)
  by_cases c6 : 0 ≤ (ji5)
  · rw [if_pos c6] at H
    have c6b0 := eq_true c6
    have c6b1 : decide (0 ≤ (ji5)) = true := decide_eq_true c6
    clear c6
    obtain ⟨ji7, hji7⟩ : ∃ j_ : Int, (shr .i64 a1 (ji5)) = j_ := ⟨_, rfl⟩
    replace H : (if a3 = 0 then (some (0, wrap64 ((wrap64 ((wrap64 (a3 + 1)) * (ji7))) - a2))) else (some (wrap64 ((wrap64 (a3 * (ji7))) - a2), wrap64 ((wrap64 ((wrap64 (a3 + 1)) * (ji7))) - a2)))) = some (r1, r2) := by first | (rw [hji7] at H; exact H) | (simp only [hji7] at H ⊢; exact H)
    have hji7_ : (a1 / 2 ^ min (ji5).toNat 64) = ji7 := hji7
    have hji7z : (ji5) ≤ 64 → (a1 / 2 ^ (ji5).toNat) = ji7 := shr_small hji7
    by_cases c8 : a3 = 0
    · rw [if_pos c8] at H
      have c8b0 : (a3 == 0) = true := beq_iff_eq.mpr c8
      have c8b1 : (a3 != 0) = false := bne_eq_false_iff_eq.mpr c8
      clear c8
      simp only [Option.some.injEq, Prod.mk.injEq] at H
      obtain ⟨rfl, rfl⟩ := H
      go_enter Try.func35, Try.ntmps35
      go_wp2_with (first | ((with_reducible refine gate_dst (N := 4) rfl ?_); refine box_event ?hg (N := 4) ?hd (cs := #[.int .i64 a0_0, .int .i64 a0_1, .slice A0_2 l0_2.length c0_2, .slice A0_3 l0_3.length c0_3]) (t := 24) ?hr ?_; (case hd => rfl); (case hg => rfl); (case hr => first | (go_simp; done) | (go_simp; rfl)); intro gb152 hg w9 hbox hb; have n0_ := Aside0.mk (below_step (by repeat (first | (with_reducible first | exact HB.out | apply below_alloc | apply pw_below_drewN | apply below_drew1) | exact HB.out)) hb); have n1_ := Aside0.mk (hbox); have n2_ := Aside0.mk ((by rw [hg]; exact (below_size (by repeat (first | (with_reducible first | exact HB.out | apply below_alloc | apply pw_below_drewN | apply below_drew1) | exact HB.out))) : w.heap.size ≤ gb152)); have n3_ := Aside0.mk ((by rw [hg]; exact (below_size (by repeat (first | (with_reducible first | exact HB.out | apply below_alloc | apply pw_below_drewN | apply below_drew1) | exact HB.out))) : w.heap.size ≤ gb152)); clear HB; have HB := n0_; have BK152 := n1_; have GW152 := n2_; have GE152 := n3_; clear n0_ n1_ n2_ n3_; clear hb hbox hg; have hcz10_0 : w9.cell? ⟨gb152, 0, none⟩ = some (.int .i64 a0_0) := (blk_cell BK152.out 0).trans rfl; have hcz10_1 : w9.cell? ⟨gb152, 1, none⟩ = some (.int .i64 a0_1) := (blk_cell BK152.out 1).trans rfl; have hcz10_2 : w9.cell? ⟨gb152, 2, none⟩ = some (.slice A0_2 l0_2.length c0_2) := (blk_cell BK152.out 2).trans rfl; have hcz10_3 : w9.cell? ⟨gb152, 3, none⟩ = some (.slice A0_3 l0_3.length c0_3) := (blk_cell BK152.out 3).trans rfl; have hfz10_0 := blk_frozen BK152.out 0; have hfz10_1 := blk_frozen BK152.out 1; have hfz10_2 := blk_frozen BK152.out 2; have hfz10_3 := blk_frozen BK152.out 3))
      go_ret2
      exact ⟨by first | rfl | (simp [errW_none, errW_some] <;> rfl) | (simp only [← hji5, ← hji7]; first | rfl | (simp [errW_none, errW_some] <;> rfl)) | (simp [*, errW_none, errW_some] <;> rfl), by repeat (first | (with_reducible first | exact HB.out | apply below_alloc | apply pw_below_drewN | apply below_drew1 | refine below_set ?_ GE152.out) | exact HB.out)⟩
    · rw [if_neg c8] at H
      have c8b0 : (a3 == 0) = false := beq_eq_false_iff_ne.mpr c8
      have c8b1 : (a3 != 0) = true := bne_iff_ne.mpr c8
      simp only [Option.some.injEq, Prod.mk.injEq] at H
      obtain ⟨rfl, rfl⟩ := H
      go_enter Try.func35, Try.ntmps35
      go_wp2_with (first | ((with_reducible refine gate_dst (N := 4) rfl ?_); refine box_event ?hg (N := 4) ?hd (cs := #[.int .i64 a0_0, .int .i64 a0_1, .slice A0_2 l0_2.length c0_2, .slice A0_3 l0_3.length c0_3]) (t := 24) ?hr ?_; (case hd => rfl); (case hg => rfl); (case hr => first | (go_simp; done) | (go_simp; rfl)); intro gb152 hg w11 hbox hb; have n0_ := Aside0.mk (below_step (by repeat (first | (with_reducible first | exact HB.out | apply below_alloc | apply pw_below_drewN | apply below_drew1) | exact HB.out)) hb); have n1_ := Aside0.mk (hbox); have n2_ := Aside0.mk ((by rw [hg]; exact (below_size (by repeat (first | (with_reducible first | exact HB.out | apply below_alloc | apply pw_below_drewN | apply below_drew1) | exact HB.out))) : w.heap.size ≤ gb152)); have n3_ := Aside0.mk ((by rw [hg]; exact (below_size (by repeat (first | (with_reducible first | exact HB.out | apply below_alloc | apply pw_below_drewN | apply below_drew1) | exact HB.out))) : w.heap.size ≤ gb152)); clear HB; have HB := n0_; have BK152 := n1_; have GW152 := n2_; have GE152 := n3_; clear n0_ n1_ n2_ n3_; clear hb hbox hg; have hcz12_0 : w11.cell? ⟨gb152, 0, none⟩ = some (.int .i64 a0_0) := (blk_cell BK152.out 0).trans rfl; have hcz12_1 : w11.cell? ⟨gb152, 1, none⟩ = some (.int .i64 a0_1) := (blk_cell BK152.out 1).trans rfl; have hcz12_2 : w11.cell? ⟨gb152, 2, none⟩ = some (.slice A0_2 l0_2.length c0_2) := (blk_cell BK152.out 2).trans rfl; have hcz12_3 : w11.cell? ⟨gb152, 3, none⟩ = some (.slice A0_3 l0_3.length c0_3) := (blk_cell BK152.out 3).trans rfl; have hfz12_0 := blk_frozen BK152.out 0; have hfz12_1 := blk_frozen BK152.out 1; have hfz12_2 := blk_frozen BK152.out 2; have hfz12_3 := blk_frozen BK152.out 3))
      go_ret2
      exact ⟨by first | rfl | (simp [errW_none, errW_some] <;> rfl) | (simp only [← hji5, ← hji7]; first | rfl | (simp [errW_none, errW_some] <;> rfl)) | (simp [*, errW_none, errW_some] <;> rfl), by repeat (first | (with_reducible first | exact HB.out | apply below_alloc | apply pw_below_drewN | apply below_drew1 | refine below_set ?_ GE152.out) | exact HB.out)⟩
  · rw [if_neg c6] at H
    exact absurd H (by simp)

/-! ### lacquerref01_Fold: function 47 -/

-- NOT PRINTED: function 52 (lacquerref01_W_Unary)

-- NOT PRINTED: function 36 (lacquerref01_W_Rice)

end Go.Proofs.Ytfhekkoibmlmpaa.Q

/- Printed by a program of ours (pp.sh), partly over contracts proved by hand. -/
namespace Go.Proofs.Ytfhekkoibmlmpaa.Q
open Go.RowKit Go.Proofs.YtfhekkoibmlmpaaW.PrintWords Go.Proofs.YtfhekkoibmlmpaaW.PrintLast Go.Proofs.YtfhekkoibmlmpaaW.PrintMore
attribute [local go_sem] max2_int min2_int max_two min_two max_three min_three max_four min_four   -- for this text's walks alone
set_option linter.unusedVariables false
set_option linter.unusedSimpArgs false

/-! ### lacquerref01_Fits: function 53 -/

-- NOT PRINTED: function 37 (lacquerref01_W_Signed)

-- NOT PRINTED: function 14 (lacquerref08_Encode)

-- NOT PRINTED: function 17 (lacquerref01_W_Bytes)

-- NOT PRINTED: function 3 (lacquerlaw08_RiceEncodes)

/-- A state of type 49 at block g of W; what its slices lead to came in by w0. -/
def IsS49 (w0 W : World) (g : Nat) (f0 : ByteArray) (f1 : Int) : Prop := W.heap[g]? = some (.cells #[.string f0, .int .i64 f1] 49 (0, 0)) ∧ w0.heap.size ≤ g
theorem IsS49.grown {w0 W : World} {g : Nat} {f0 : ByteArray} {f1 : Int} {W1 : World} {row : Option Nat} (h : IsS49 w0 W g f0 f1) (hw : W.grownBy W1 row) (hne : some g ≠ row) : IsS49 w0 W1 g f0 f1 := by
  obtain ⟨hb, hg⟩ := h
  exact ⟨blk_grown hb hw hne, hg⟩
theorem IsS49.kept {w0 W : World} {g : Nat} {f0 : ByteArray} {f1 : Int} {W1 : World} {S : Nat → Prop} (h : IsS49 w0 W g f0 f1) (hk : Kept W W1 S) (hne : ¬ S g) : IsS49 w0 W1 g f0 f1 := by
  obtain ⟨hb, hg⟩ := h
  exact ⟨blk_kept hb hk hne, hg⟩
theorem IsS49.below {w0 W : World} {g : Nat} {f0 : ByteArray} {f1 : Int} {W1 : World} (h : IsS49 w0 W g f0 f1) (hw : Below W.heap.size W W1) : IsS49 w0 W1 g f0 f1 := h.grown (grown_of_below hw none) (by simp)
theorem IsS49.alloc {w0 W : World} {g : Nat} {f0 : ByteArray} {f1 : Int} (h : IsS49 w0 W g f0 f1) (o : Obj) : IsS49 w0 (W.alloc o) g f0 f1 := h.below (below_alloc (Below.refl _ _) o)
theorem IsS49.drewN {w0 W : World} {g : Nat} {f0 : ByteArray} {f1 : Int} (h : IsS49 w0 W g f0 f1) (m : Nat) : IsS49 w0 (W.drewN m) g f0 f1 := h
theorem IsS49.drew {w0 W : World} {g : Nat} {f0 : ByteArray} {f1 : Int} (h : IsS49 w0 W g f0 f1) : IsS49 w0 W.drew g f0 f1 := h
theorem IsS49.at_ {w0 W : World} {g : Nat} {f0 : ByteArray} {f1 : Int} {w' : World} {m : Nat} (hq : W.drewN m = w') (h : IsS49 w0 W g f0 f1) : IsS49 w0 w' g f0 f1 := by subst hq; exact IsS49.drewN h m
theorem IsS49.apart {w0 W : World} {g : Nat} {f0 : ByteArray} {f1 : Int} {α : Type} {d : Kd α} {e : Nat} {base : Nat} {ok : Nat → Prop} {v : Value} {xs : List α} (h : IsS49 w0 W g f0 f1) (ho : d.R e W base ok v xs) (ht : ∀ q, q ∈ e :: d.E → q ≠ 49) : d.R e W base (fun k => ok k ∧ k ≠ g) v xs := by
  obtain ⟨hb, hg⟩ := h
  exact Kd.R_types ho hb ht
theorem IsS49.own_ne {w0 W : World} {g : Nat} {f0 : ByteArray} {f1 : Int} {α : Type} {d : Kd α} {e : Nat} {base : Nat} {ok : Nat → Prop} {v : Value} {xs : List α} (h : IsS49 w0 W g f0 f1) (ho : d.R e W base ok v xs) (ht : e ≠ 49) : some g ≠ v.ownBlock := by
  obtain ⟨hb, hg⟩ := h
  exact Kd.R_ne ho hb ht
theorem IsS49.lt {w0 W : World} {g : Nat} {f0 : ByteArray} {f1 : Int} (h : IsS49 w0 W g f0 f1) : g < W.heap.size := by
  obtain ⟨hb, hg⟩ := h
  exact blk_lt hb
theorem IsS49.ge {w0 W : World} {g : Nat} {f0 : ByteArray} {f1 : Int} (h : IsS49 w0 W g f0 f1) : w0.heap.size ≤ g := by
  obtain ⟨hb, hg⟩ := h
  exact hg
theorem cellS49_0 {W : World} {g : Nat} {f0 : ByteArray} {f1 : Int} (h : W.heap[g]? = some (.cells #[.string f0, .int .i64 f1] 49 (0, 0))) : W.cell? ⟨g, 0, none⟩ = some (.string f0) := (blk_cell h 0).trans rfl
theorem IsS49.set_0 {w0 W : World} {g : Nat} {f0 : ByteArray} {f1 : Int} (h : IsS49 w0 W g f0 f1) (x : ByteArray) : IsS49 w0 (W.setCell ⟨g, 0, none⟩ (.string x)) g x f1 := by
  obtain ⟨hb, hg⟩ := h
  exact ⟨by simpa using blk_set hb 0 (.string x), hg⟩
theorem cellS49_1 {W : World} {g : Nat} {f0 : ByteArray} {f1 : Int} (h : W.heap[g]? = some (.cells #[.string f0, .int .i64 f1] 49 (0, 0))) : W.cell? ⟨g, 1, none⟩ = some (.int .i64 f1) := (blk_cell h 1).trans rfl
theorem IsS49.set_1 {w0 W : World} {g : Nat} {f0 : ByteArray} {f1 : Int} (h : IsS49 w0 W g f0 f1) (x : Int) : IsS49 w0 (W.setCell ⟨g, 1, none⟩ (.int .i64 x)) g f0 x := by
  obtain ⟨hb, hg⟩ := h
  exact ⟨by simpa using blk_set hb 1 (.int .i64 x), hg⟩
theorem IsS49.new (w0 W : World) (f0 : ByteArray) (f1 : Int) (hB : Below w0.heap.size w0 W) : IsS49 w0 (W.alloc (.cells #[.string f0, .int .i64 f1] 49)) W.heap.size f0 f1 := ⟨by simpa using heap_alloc_new W _, hB.size⟩

/-! ### lacquerref01_R_Left: function 59 -/
def lacquerref01_R_Left.f (s0_0 : ByteArray) (s0_1 : Int) : Option (Int × ByteArray × Int) := some (wrap64 ((wrap64 ((s0_0.size : Int) * 8)) - s0_1), s0_0, s0_1)
set_option maxHeartbeats 8000000 in
set_option maxRecDepth 100000 in
theorem lacquerref01_R_Left.calls (g : Nat) (s0_0 : ByteArray) (s0_1 : Int) (r1 : Int) (r2 : ByteArray) (r3 : Int) (w0 w : World) (hI : IsS49 w0 w g s0_0 s0_1) (hB : Below w0.heap.size w0 w) (h : lacquerref01_R_Left.f s0_0 s0_1 = some (r1, r2, r3)) :
    Calls Try.prog 59 #[.pointer (some ⟨g, 0, none⟩)] w fun e w' => e = .returned (.int .i64 r1) ∧ IsS49 w0 w' g r2 r3 ∧ Below w0.heap.size w0 w' ∧ KeepBut w w' g none := by
  have HI0 := Aside0.mk hI
  have HK := Aside0.mk (KeepBut.refl w g none)
  have HL := Aside0.mk hB.size
  clear hI
  have HW0 := Aside0.mk hB.size
  have HB := Aside0.mk hB
  clear hB
  have H : (some (wrap64 ((wrap64 ((s0_0.size : Int) * 8)) - s0_1), s0_0, s0_1)) = some (r1, r2, r3) := h
  clear h
  simp only [Option.some.injEq, Prod.mk.injEq] at H
  obtain ⟨rfl, rfl, rfl⟩ := H
  obtain ⟨HGz2, hgz2⟩ := HI0.out
  have hcz2_0 := cellS49_0 HGz2
  have hcz2_1 := cellS49_1 HGz2
  have hfz2_0 := blk_frozen HGz2 0
  have hfz2_1 := blk_frozen HGz2 1
  clear HGz2 hgz2
  go_enter Try.func59, Try.ntmps59
  go_wp2
  repeat (go_quiet (fail); try go_wp2)
  go_ret
  exact ⟨by first | rfl | (simp [errW_none, errW_some] <;> rfl) | (simp [*, errW_none, errW_some] <;> rfl), by repeat (first | (with_reducible first | exact HI0.out | apply IsS49.alloc | apply IsS49.drewN | apply IsS49.drew | apply IsS49.set_0 | apply IsS49.set_1) | exact HI0.out), by repeat (first | (with_reducible first | exact HB.out | apply below_alloc | apply pw_below_drewN | apply below_drew1 | refine below_set ?_ (IsS49.ge HI0.out)) | exact HB.out), by repeat (first | (with_reducible first | exact HK.out | apply KeepBut.set_ | apply keep_drewN | apply keep_drew | apply keep_alloc) | exact HK.out)⟩

/-! ### lacquerref01_R_bit: function 60 -/
def lacquerref01_R_bit.f (s0_0 : ByteArray) (s0_1 : Int) (a1 : Int) : Option (Int × ByteArray × Int) := if 0 ≤ (wrap64 (Int.tdiv a1 8)) then (if (wrap64 (Int.tdiv a1 8)) < (s0_0.size : Int) then (if 0 ≤ (IntKind.u64.wrap (wrap64 (7 - (Int.tmod a1 8)))) then (some (Go.bits .and .i64 (wrap64 (shr .u8 (bt s0_0 (wrap64 (Int.tdiv a1 8))) (IntKind.u64.wrap (wrap64 (7 - (Int.tmod a1 8)))))) 1, s0_0, s0_1)) else (none)) else (none)) else (none)
set_option maxHeartbeats 8000000 in
set_option maxRecDepth 100000 in
theorem lacquerref01_R_bit.calls (g : Nat) (s0_0 : ByteArray) (s0_1 : Int) (a1 : Int) (r1 : Int) (r2 : ByteArray) (r3 : Int) (w0 w : World) (hI : IsS49 w0 w g s0_0 s0_1) (hB : Below w0.heap.size w0 w) (h : lacquerref01_R_bit.f s0_0 s0_1 a1 = some (r1, r2, r3)) :
    Calls Try.prog 60 #[.pointer (some ⟨g, 0, none⟩), .int .i64 a1] w fun e w' => e = .returned (.int .i64 r1) ∧ IsS49 w0 w' g r2 r3 ∧ Below w0.heap.size w0 w' ∧ KeepBut w w' g none := by
  have HI0 := Aside0.mk hI
  have HK := Aside0.mk (KeepBut.refl w g none)
  have HL := Aside0.mk hB.size
  clear hI
  have HW0 := Aside0.mk hB.size
  have HB := Aside0.mk hB
  clear hB
  have H : (if 0 ≤ (wrap64 (Int.tdiv a1 8)) then (if (wrap64 (Int.tdiv a1 8)) < (s0_0.size : Int) then (if 0 ≤ (IntKind.u64.wrap (wrap64 (7 - (Int.tmod a1 8)))) then (some (Go.bits .and .i64 (wrap64 (shr .u8 (bt s0_0 (wrap64 (Int.tdiv a1 8))) (IntKind.u64.wrap (wrap64 (7 - (Int.tmod a1 8)))))) 1, s0_0, s0_1)) else (none)) else (none)) else (none)) = some (r1, r2, r3) := h
  clear h
  obtain ⟨ji3, hji3⟩ : ∃ j_ : Int, (wrap64 (Int.tdiv a1 8)) = j_ := ⟨_, rfl⟩
  replace H : (if 0 ≤ (ji3) then (if (ji3) < (s0_0.size : Int) then (if 0 ≤ (IntKind.u64.wrap (wrap64 (7 - (Int.tmod a1 8)))) then (some (Go.bits .and .i64 (wrap64 (shr .u8 (bt s0_0 (ji3)) (IntKind.u64.wrap (wrap64 (7 - (Int.tmod a1 8)))))) 1, s0_0, s0_1)) else (none)) else (none)) else (none)) = some (r1, r2, r3) := by first | (rw [hji3] at H; exact H) | (simp only [hji3] at H ⊢; exact H)
  have hji3w : (IntKind.i64.wrap (Int.tdiv a1 8)) = ji3 := (i64_w _).trans hji3
  by_cases c4 : 0 ≤ (ji3)
  · rw [if_pos c4] at H
    have c4b0 : decide (0 ≤ (ji3)) = true := decide_eq_true c4
    clear c4
    by_cases c5 : (ji3) < (s0_0.size : Int)
    · rw [if_pos c5] at H
      have c5b0 : decide ((ji3) < (s0_0.size : Int)) = true := decide_eq_true c5
      clear c5
      obtain ⟨ji7, hji7⟩ : ∃ j_ : Int, (IntKind.u64.wrap (wrap64 (7 - (Int.tmod a1 8)))) = j_ := ⟨_, rfl⟩
      replace H : (if 0 ≤ (ji7) then (some (Go.bits .and .i64 (wrap64 (shr .u8 (bt s0_0 (ji3)) (ji7))) 1, s0_0, s0_1)) else (none)) = some (r1, r2, r3) := by first | (rw [hji7] at H; exact H) | (simp only [hji7] at H ⊢; exact H)
      by_cases c8 : 0 ≤ (ji7)
      · rw [if_pos c8] at H
        have c8b0 := eq_true c8
        have c8b1 : decide (0 ≤ (ji7)) = true := decide_eq_true c8
        clear c8
        obtain ⟨ji9, hji9⟩ : ∃ j_ : Int, (shr .u8 (bt s0_0 (ji3)) (ji7)) = j_ := ⟨_, rfl⟩
        replace H : (some (Go.bits .and .i64 (wrap64 (ji9)) 1, s0_0, s0_1)) = some (r1, r2, r3) := by first | (rw [hji9] at H; exact H) | (simp only [hji9] at H ⊢; exact H)
        have hji9_ : ((bt s0_0 (ji3)) / 2 ^ min (ji7).toNat 8) = ji9 := hji9
        have hji9z : (ji7) ≤ 8 → ((bt s0_0 (ji3)) / 2 ^ (ji7).toNat) = ji9 := shr_small hji9
        simp only [Option.some.injEq, Prod.mk.injEq] at H
        obtain ⟨rfl, rfl, rfl⟩ := H
        obtain ⟨HGz10, hgz10⟩ := HI0.out
        have hcz10_0 := cellS49_0 HGz10
        have hcz10_1 := cellS49_1 HGz10
        have hfz10_0 := blk_frozen HGz10 0
        have hfz10_1 := blk_frozen HGz10 1
        clear HGz10 hgz10
        have p6 : 0 ≤ ((ji3) : Int) := of_decide_eq_true (by first | (with_reducible assumption) | assumption)
        have q6 : (ji3) < (s0_0.size : Int) := of_decide_eq_true (by first | (with_reducible assumption) | assumption)
        have hx6 := bt_at s0_0 (ji3)
        replace p6 := eq_true p6
        replace q6 := eq_true q6
        go_enter Try.func60, Try.ntmps60
        go_wp2
        go_ret
        exact ⟨by first | rfl | (simp [errW_none, errW_some] <;> rfl) | (simp only [← hji3, ← hji7, ← hji9]; first | rfl | (simp [errW_none, errW_some] <;> rfl)) | (simp [*, errW_none, errW_some] <;> rfl), by repeat (first | (with_reducible first | exact HI0.out | apply IsS49.alloc | apply IsS49.drewN | apply IsS49.drew | apply IsS49.set_0 | apply IsS49.set_1) | exact HI0.out), by repeat (first | (with_reducible first | exact HB.out | apply below_alloc | apply pw_below_drewN | apply below_drew1 | refine below_set ?_ (IsS49.ge HI0.out)) | exact HB.out), by repeat (first | (with_reducible first | exact HK.out | apply KeepBut.set_ | apply keep_drewN | apply keep_drew | apply keep_alloc) | exact HK.out)⟩
      · rw [if_neg c8] at H
        exact absurd H (by simp)
    · rw [if_neg c5] at H
      exact absurd H (by simp)
  · rw [if_neg c4] at H
    exact absurd H (by simp)

/-! ### lacquerref01_R_Get: function 43 -/
mutual
def lacquerref01_R_Get.j0 : Nat → Int → Bool → ByteArray → Int → Option (Int × Int × ByteArray × Int)
  | 0, _, _, _, _ => none
  | k + 1, x1, x13, x1000, x1001 => if x13 = true then (some (0, 11, x1000, x1001)) else ((lacquerref01_R_Left.f x1000 x1001).bind fun bt165 => (if bt165.1 < x1 then (some (0, 10, bt165.2.1, bt165.2.2)) else (lacquerref01_R_Get.l0 k x1 0 0 bt165.2.1 bt165.2.2)))
def lacquerref01_R_Get.l0 : Nat → Int → Int → Int → ByteArray → Int → Option (Int × Int × ByteArray × Int)
  | 0, _, _, _, _, _ => none
  | k + 1, x1, x6, x7, x1000, x1001 => if x7 < x1 then ((lacquerref01_R_bit.f x1000 x1001 (wrap64 (x1001 + x7))).bind fun bt168 => (lacquerref01_R_Get.l0 k x1 (IntKind.u64.wrap ((IntKind.u64.wrap (x6 * 2)) + (IntKind.u64.wrap (bt168.1)))) (wrap64 (x7 + 1)) bt168.2.1 bt168.2.2)) else (some (x6, 0, x1000, wrap64 (x1001 + x1)))
end
def lacquerref01_R_Get.f (k : Nat) (s0_0 : ByteArray) (s0_1 : Int) (a1 : Int) : Option (Int × Int × ByteArray × Int) := if a1 < 0 then (lacquerref01_R_Get.j0 k a1 true s0_0 s0_1) else (lacquerref01_R_Get.j0 k a1 (decide (a1 > 64)) s0_0 s0_1)
set_option maxHeartbeats 8000000 in
set_option maxRecDepth 100000 in
theorem lacquerref01_R_Get.calls (k : Nat) (g : Nat) (s0_0 : ByteArray) (s0_1 : Int) (a1 : Int) (r1 : Int) (r2 : Int) (r3 : ByteArray) (r4 : Int) (w0 w : World) (hI : IsS49 w0 w g s0_0 s0_1) (hB : Below w0.heap.size w0 w) (h : lacquerref01_R_Get.f k s0_0 s0_1 a1 = some (r1, r2, r3, r4)) :
    Calls Try.prog 43 #[.pointer (some ⟨g, 0, none⟩), .int .i64 a1] w fun e w' => e = .returned (.tuple #[.int .u64 r1, .int .i64 r2]) ∧ IsS49 w0 w' g r3 r4 ∧ Below w0.heap.size w0 w' ∧ KeepBut w w' g none := by
  have HI0 := Aside0.mk hI
  have HK := Aside0.mk (KeepBut.refl w g none)
  have HL := Aside0.mk hB.size
  clear hI
  have HW0 := Aside0.mk hB.size
  have HB := Aside0.mk hB
  clear hB
  have H : (if a1 < 0 then (lacquerref01_R_Get.j0 k a1 true s0_0 s0_1) else (lacquerref01_R_Get.j0 k a1 (decide (a1 > 64)) s0_0 s0_1)) = some (r1, r2, r3, r4) := h
  clear h
  have HC3 := Aside0.mk H
  clear H
  go_enter Try.func43, Try.ntmps43
  go_upto_region 1 with (fail)
  go_cut [13] (fun v13 wc => ∃ (kq : Nat) (x13_2 : Bool), v13 = .bool x13_2 ∧ Aside0 (lacquerref01_R_Get.j0 kq a1 x13_2 s0_0 s0_1 = some (r1, r2, r3, r4)) ∧ Aside0 (kq ≤ k) ∧ Aside0 (IsS49 w0 wc g s0_0 s0_1) ∧ Aside0 (KeepBut w wc g none) ∧ Aside0 (Below w0.heap.size w0 wc))
  case first =>
    have H := HC3.out
    clear HC3
    by_cases c4 : a1 < 0
    · rw [if_pos c4] at H
      have c4b0 : decide (a1 < 0) = true := decide_eq_true c4
      clear c4
      (first | rw [c4b0] | (simp only [i64_w, i32_w]; rw [c4b0]) | skip)
      have H' := Aside0.mk H
      clear H
      go_wp2
      go_meet
      case rel => exact ⟨_, (true), (by first | rfl | (simp; done) | (simp [*]; done)), H', ⟨by first | omega | exact Nat.le_refl _⟩, ⟨by repeat (first | (with_reducible first | exact HI0.out | apply IsS49.alloc | apply IsS49.drewN | apply IsS49.drew | apply IsS49.set_0 | apply IsS49.set_1) | exact HI0.out)⟩, ⟨by repeat (first | (with_reducible first | exact HK.out | apply KeepBut.set_ | apply keep_drewN | apply keep_drew | apply keep_alloc) | exact HK.out)⟩, ⟨by repeat (first | (with_reducible first | exact HB.out | apply below_alloc | apply pw_below_drewN | apply below_drew1 | refine below_set ?_ (IsS49.ge HI0.out)) | exact HB.out)⟩⟩
    · rw [if_neg c4] at H
      have c4b0 : decide (a1 < 0) = false := decide_eq_false c4
      clear c4
      (first | rw [c4b0] | (simp only [i64_w, i32_w]; rw [c4b0]) | skip)
      have H' := Aside0.mk H
      clear H
      go_wp2
      go_meet
      case rel => exact ⟨_, (decide (a1 > 64)), (by first | rfl | (simp; done) | (simp [*]; done)), H', ⟨by first | omega | exact Nat.le_refl _⟩, ⟨by repeat (first | (with_reducible first | exact HI0.out | apply IsS49.alloc | apply IsS49.drewN | apply IsS49.drew | apply IsS49.set_0 | apply IsS49.set_1) | exact HI0.out)⟩, ⟨by repeat (first | (with_reducible first | exact HK.out | apply KeepBut.set_ | apply keep_drewN | apply keep_drew | apply keep_alloc) | exact HK.out)⟩, ⟨by repeat (first | (with_reducible first | exact HB.out | apply below_alloc | apply pw_below_drewN | apply below_drew1 | refine below_set ?_ (IsS49.ge HI0.out)) | exact HB.out)⟩⟩
  case rest =>
    clear HC3
    try clear p2
    try clear c4
    try clear c4b0
    obtain ⟨kq, x13_2, rfl, HA, HJ2, HI0, HK, HB⟩ := hcut
    cases kq with
    | zero => exact absurd HA.out (by simp [lacquerref01_R_Get.j0])
    | succ kj2 =>
      have H := HA.out
      clear HA
      simp only [lacquerref01_R_Get.j0] at H
      by_cases c5 : x13_2 = true
      · subst c5
        have H1 : (some (0, 11, s0_0, s0_1)) = some (r1, r2, r3, r4) := by rw [if_pos rfl] at H; exact H
        clear H
        have H := H1
        clear H1
        simp only [Option.some.injEq, Prod.mk.injEq] at H
        obtain ⟨rfl, rfl, rfl, rfl⟩ := H
        go_wp2
        go_ret2
        exact ⟨by first | rfl | (simp [errW_none, errW_some] <;> rfl) | (simp [*, errW_none, errW_some] <;> rfl), by repeat (first | (with_reducible first | exact HI0.out | apply IsS49.alloc | apply IsS49.drewN | apply IsS49.drew | apply IsS49.set_0 | apply IsS49.set_1) | exact HI0.out), by repeat (first | (with_reducible first | exact HB.out | apply below_alloc | apply pw_below_drewN | apply below_drew1 | refine below_set ?_ (IsS49.ge HI0.out)) | exact HB.out), by repeat (first | (with_reducible first | exact HK.out | apply KeepBut.set_ | apply keep_drewN | apply keep_drew | apply keep_alloc) | exact HK.out)⟩
      · replace c5 := Bool.eq_false_iff.mpr c5
        subst c5
        have H1 : ((lacquerref01_R_Left.f s0_0 s0_1).bind fun bt165 => (if bt165.1 < a1 then (some (0, 10, bt165.2.1, bt165.2.2)) else (lacquerref01_R_Get.l0 kj2 a1 0 0 bt165.2.1 bt165.2.2))) = some (r1, r2, r3, r4) := by rw [if_neg (show ¬ (false = true) by decide)] at H; exact H
        clear H
        have H := H1
        clear H1
        replace H := Option.bind_eq_some_iff.mp H
        obtain ⟨⟨t165, t166, t167⟩, A60, H⟩ := H
        replace H : (if t165 < a1 then (some (0, 10, t166, t167)) else (lacquerref01_R_Get.l0 kj2 a1 0 0 t166 t167)) = some (r1, r2, r3, r4) := H
        have A6 := Aside0.mk A60
        clear A60
        by_cases c7 : t165 < a1
        · rw [if_pos c7] at H
          have c7b0 : decide (t165 < a1) = true := decide_eq_true c7
          clear c7
          simp only [Option.some.injEq, Prod.mk.injEq] at H
          obtain ⟨rfl, rfl, rfl, rfl⟩ := H
          go_wp2_with (first | ((with_reducible refine gate_callee (f := 59) rfl ?_); refine goesL_ (some 15) rfl rfl Try.func59 (by kernel_rfl) rfl #[.pointer (some ⟨g, 0, none⟩)] rfl (by (try simp only [List.map_toArray, List.map_cons, List.map_nil]); first | done | rfl | (simp only [List.length_drop, List.length_take]; rfl)) ?_; (with_reducible refine (lacquerref01_R_Left.calls g s0_0 s0_1 t165 t166 t167 w0 _ ?side1 ?side2 A6.out).mono ?_); (case side1 => repeat (first | (with_reducible first | exact HI0.out | apply IsS49.alloc | apply IsS49.drewN | apply IsS49.drew | apply IsS49.set_0 | apply IsS49.set_1) | exact HI0.out)); (case side2 => repeat (first | (with_reducible first | exact HB.out | apply below_alloc | apply pw_below_drewN | apply below_drew1 | refine below_set ?_ (IsS49.ge HI0.out)) | exact HB.out)); rintro e w8 ⟨rfl, hi, hb, hk⟩; refine ⟨_, rfl, ?_⟩; have n0_ := Aside0.mk (KeepBut.trans (by repeat (first | (with_reducible first | exact HK.out | apply KeepBut.set_ | apply keep_drewN | apply keep_drew | apply keep_alloc) | exact HK.out)) hk (.inl rfl)); have n1_ := Aside0.mk (hb); have n2_ := Aside0.mk (hi); clear HK; clear HB; clear HI0; have HK := n0_; have HB := n1_; have HI0 := n2_; clear n0_ n1_ n2_; (try clear hb); (try clear hb2); (try clear hk); (try clear hi)))
          go_ret2
          exact ⟨by first | rfl | (simp [errW_none, errW_some] <;> rfl) | (simp [*, errW_none, errW_some] <;> rfl), by repeat (first | (with_reducible first | exact HI0.out | apply IsS49.alloc | apply IsS49.drewN | apply IsS49.drew | apply IsS49.set_0 | apply IsS49.set_1) | exact HI0.out), by repeat (first | (with_reducible first | exact HB.out | apply below_alloc | apply pw_below_drewN | apply below_drew1 | refine below_set ?_ (IsS49.ge HI0.out)) | exact HB.out), by repeat (first | (with_reducible first | exact HK.out | apply KeepBut.set_ | apply keep_drewN | apply keep_drew | apply keep_alloc) | exact HK.out)⟩
        · rw [if_neg c7] at H
          have c7b0 : decide (t165 < a1) = false := decide_eq_false c7
          clear c7
          have H' := Aside0.mk H
          clear H
          go_wp2_with (first | ((with_reducible refine gate_callee (f := 59) rfl ?_); refine goesL_ (some 15) rfl rfl Try.func59 (by kernel_rfl) rfl #[.pointer (some ⟨g, 0, none⟩)] rfl (by (try simp only [List.map_toArray, List.map_cons, List.map_nil]); first | done | rfl | (simp only [List.length_drop, List.length_take]; rfl)) ?_; (with_reducible refine (lacquerref01_R_Left.calls g s0_0 s0_1 t165 t166 t167 w0 _ ?side1 ?side2 A6.out).mono ?_); (case side1 => repeat (first | (with_reducible first | exact HI0.out | apply IsS49.alloc | apply IsS49.drewN | apply IsS49.drew | apply IsS49.set_0 | apply IsS49.set_1) | exact HI0.out)); (case side2 => repeat (first | (with_reducible first | exact HB.out | apply below_alloc | apply pw_below_drewN | apply below_drew1 | refine below_set ?_ (IsS49.ge HI0.out)) | exact HB.out)); rintro e w9 ⟨rfl, hi, hb, hk⟩; refine ⟨_, rfl, ?_⟩; have n0_ := Aside0.mk (KeepBut.trans (by repeat (first | (with_reducible first | exact HK.out | apply KeepBut.set_ | apply keep_drewN | apply keep_drew | apply keep_alloc) | exact HK.out)) hk (.inl rfl)); have n1_ := Aside0.mk (hb); have n2_ := Aside0.mk (hi); clear HK; clear HB; clear HI0; have HK := n0_; have HB := n1_; have HI0 := n2_; clear n0_ n1_ n2_; (try clear hb); (try clear hb2); (try clear hk); (try clear hi)))
          go_loopg [6, 7] kj2 (fun kq v6 v7 w' => ∃ (x6_2 : Int) (x7_2 : Int) (x1000_2 : ByteArray) (x1001_2 : Int), v6 = .int .u64 x6_2 ∧ v7 = .int .i64 x7_2 ∧ Aside0 (lacquerref01_R_Get.l0 kq a1 x6_2 x7_2 x1000_2 x1001_2 = some (r1, r2, r3, r4)) ∧ Aside0 (kq ≤ kj2) ∧ Aside0 (IsS49 w0 w' g x1000_2 x1001_2) ∧ Aside0 (KeepBut w w' g none) ∧ Aside0 (Below w0.heap.size w0 w'))
          case atStart => exact ⟨(0), (0), (t166), (t167), (by first | rfl | (simp; done) | (simp [*]; done)), (by first | rfl | (simp; done) | (simp [*]; done)), H', ⟨Nat.le_refl _⟩, ⟨by repeat (first | (with_reducible first | exact HI0.out | apply IsS49.alloc | apply IsS49.drewN | apply IsS49.drew | apply IsS49.set_0 | apply IsS49.set_1) | exact HI0.out)⟩, ⟨by repeat (first | (with_reducible first | exact HK.out | apply KeepBut.set_ | apply keep_drewN | apply keep_drew | apply keep_alloc) | exact HK.out)⟩, ⟨by repeat (first | (with_reducible first | exact HB.out | apply below_alloc | apply pw_below_drewN | apply below_drew1 | refine below_set ?_ (IsS49.ge HI0.out)) | exact HB.out)⟩⟩
          case round =>
            clear H'
            try clear p2
            try clear c4
            try clear c4b0
            try clear c5
            try clear c7
            try clear c7b0
            try clear p2
            obtain ⟨x6_2, x7_2, x1000_2, x1001_2, rfl, rfl, HA, HK2, HI0, HK, HB⟩ := hrel
            cases gk with
            | zero => exact absurd HA.out (by simp [lacquerref01_R_Get.l0])
            | succ k2 =>
              have H := HA.out
              clear HA
              simp only [lacquerref01_R_Get.l0] at H
              by_cases c10 : x7_2 < a1
              · rw [if_pos c10] at H
                have c10b0 : decide (x7_2 < a1) = true := decide_eq_true c10
                clear c10
                replace H := Option.bind_eq_some_iff.mp H
                obtain ⟨⟨t168, t169, t170⟩, A110, H⟩ := H
                replace H : (lacquerref01_R_Get.l0 k2 a1 (IntKind.u64.wrap ((IntKind.u64.wrap (x6_2 * 2)) + (IntKind.u64.wrap (t168)))) (wrap64 (x7_2 + 1)) t169 t170) = some (r1, r2, r3, r4) := H
                have A11 := Aside0.mk A110
                clear A110
                have H' := Aside0.mk H
                clear H
                obtain ⟨HGz12, hgz12⟩ := HI0.out
                have hcz12_0 := cellS49_0 HGz12
                have hcz12_1 := cellS49_1 HGz12
                have hfz12_0 := blk_frozen HGz12 0
                have hfz12_1 := blk_frozen HGz12 1
                clear HGz12 hgz12
                go_wp2_with (first | ((with_reducible refine gate_callee (f := 60) rfl ?_); refine goesL_ (some 32) rfl rfl Try.func60 (by kernel_rfl) rfl #[.pointer (some ⟨g, 0, none⟩), .int .i64 (wrap64 (x1001_2 + x7_2))] rfl (by (try simp only [List.map_toArray, List.map_cons, List.map_nil]); first | done | rfl | (simp only [List.length_drop, List.length_take]; rfl)) ?_; (with_reducible refine (lacquerref01_R_bit.calls g x1000_2 x1001_2 (wrap64 (x1001_2 + x7_2)) t168 t169 t170 w0 _ ?side1 ?side2 A11.out).mono ?_); (case side1 => repeat (first | (with_reducible first | exact HI0.out | apply IsS49.alloc | apply IsS49.drewN | apply IsS49.drew | apply IsS49.set_0 | apply IsS49.set_1) | exact HI0.out)); (case side2 => repeat (first | (with_reducible first | exact HB.out | apply below_alloc | apply pw_below_drewN | apply below_drew1 | refine below_set ?_ (IsS49.ge HI0.out)) | exact HB.out)); rintro e w13 ⟨rfl, hi, hb, hk⟩; refine ⟨_, rfl, ?_⟩; have n0_ := Aside0.mk (KeepBut.trans (by repeat (first | (with_reducible first | exact HK.out | apply KeepBut.set_ | apply keep_drewN | apply keep_drew | apply keep_alloc) | exact HK.out)) hk (.inl rfl)); have n1_ := Aside0.mk (hb); have n2_ := Aside0.mk (hi); clear HK; clear HB; clear HI0; have HK := n0_; have HB := n1_; have HI0 := n2_; clear n0_ n1_ n2_; (try clear hb); (try clear hb2); (try clear hk); (try clear hi)))
                go_roundg k2
                case measure => have := HJ2.out; have := HK2.out; omega
                case rel => exact ⟨(IntKind.u64.wrap ((IntKind.u64.wrap (x6_2 * 2)) + (IntKind.u64.wrap (t168)))), (wrap64 (x7_2 + 1)), (t169), (t170), (by first | rfl | (simp; done) | (simp [*]; done)), (by first | rfl | (simp; done) | (simp [*]; done)), H', ⟨by have := HJ2.out; have := HK2.out; omega⟩, ⟨by repeat (first | (with_reducible first | exact HI0.out | apply IsS49.alloc | apply IsS49.drewN | apply IsS49.drew | apply IsS49.set_0 | apply IsS49.set_1) | exact HI0.out)⟩, ⟨by repeat (first | (with_reducible first | exact HK.out | apply KeepBut.set_ | apply keep_drewN | apply keep_drew | apply keep_alloc) | exact HK.out)⟩, ⟨by repeat (first | (with_reducible first | exact HB.out | apply below_alloc | apply pw_below_drewN | apply below_drew1 | refine below_set ?_ (IsS49.ge HI0.out)) | exact HB.out)⟩⟩
              · rw [if_neg c10] at H
                have c10b0 : decide (x7_2 < a1) = false := decide_eq_false c10
                clear c10
                simp only [Option.some.injEq, Prod.mk.injEq] at H
                obtain ⟨rfl, rfl, rfl, rfl⟩ := H
                obtain ⟨HGz14, hgz14⟩ := HI0.out
                have hcz14_0 := cellS49_0 HGz14
                have hcz14_1 := cellS49_1 HGz14
                have hfz14_0 := blk_frozen HGz14 0
                have hfz14_1 := blk_frozen HGz14 1
                clear HGz14 hgz14
                go_wp2
                go_ret2
                exact ⟨by first | rfl | (simp [errW_none, errW_some] <;> rfl) | (simp [*, errW_none, errW_some] <;> rfl), by repeat (first | (with_reducible first | exact HI0.out | apply IsS49.alloc | apply IsS49.drewN | apply IsS49.drew | apply IsS49.set_0 | apply IsS49.set_1) | exact HI0.out), by repeat (first | (with_reducible first | exact HB.out | apply below_alloc | apply pw_below_drewN | apply below_drew1 | refine below_set ?_ (IsS49.ge HI0.out)) | exact HB.out), by repeat (first | (with_reducible first | exact HK.out | apply KeepBut.set_ | apply keep_drewN | apply keep_drew | apply keep_alloc) | exact HK.out)⟩

/-! ### lacquerref01_R_Unary: function 61 -/
def lacquerref01_R_Unary.l0 : Nat → Int → Int → ByteArray → Int → Option (Int × Int × ByteArray × Int)
  | 0, _, _, _, _ => none
  | k + 1, x4, x5, x1000, x1001 => if x4 > 16777216 then (some (0, 11, x1000, x1001)) else (if x5 ≥ (wrap64 ((x1000.size : Int) * 8)) then (some (0, 10, x1000, x1001)) else ((lacquerref01_R_bit.f x1000 x1001 x5).bind fun bt171 => (if bt171.1 = 1 then (some (x4, 0, bt171.2.1, wrap64 (x5 + 1))) else (lacquerref01_R_Unary.l0 k (wrap64 (x4 + 1)) (wrap64 (x5 + 1)) bt171.2.1 bt171.2.2))))
def lacquerref01_R_Unary.f (k : Nat) (s0_0 : ByteArray) (s0_1 : Int) : Option (Int × Int × ByteArray × Int) := lacquerref01_R_Unary.l0 k 0 s0_1 s0_0 s0_1
set_option maxHeartbeats 8000000 in
set_option maxRecDepth 100000 in
theorem lacquerref01_R_Unary.calls (k : Nat) (g : Nat) (s0_0 : ByteArray) (s0_1 : Int) (r1 : Int) (r2 : Int) (r3 : ByteArray) (r4 : Int) (w0 w : World) (hI : IsS49 w0 w g s0_0 s0_1) (hB : Below w0.heap.size w0 w) (h : lacquerref01_R_Unary.f k s0_0 s0_1 = some (r1, r2, r3, r4)) :
    Calls Try.prog 61 #[.pointer (some ⟨g, 0, none⟩)] w fun e w' => e = .returned (.tuple #[.int .i64 r1, .int .i64 r2]) ∧ IsS49 w0 w' g r3 r4 ∧ Below w0.heap.size w0 w' ∧ KeepBut w w' g none := by
  have HI0 := Aside0.mk hI
  have HK := Aside0.mk (KeepBut.refl w g none)
  have HL := Aside0.mk hB.size
  clear hI
  have HW0 := Aside0.mk hB.size
  have HB := Aside0.mk hB
  clear hB
  have H : (lacquerref01_R_Unary.l0 k 0 s0_1 s0_0 s0_1) = some (r1, r2, r3, r4) := h
  clear h
  have H' := Aside0.mk H
  clear H
  obtain ⟨HGz2, hgz2⟩ := HI0.out
  have hcz2_0 := cellS49_0 HGz2
  have hcz2_1 := cellS49_1 HGz2
  have hfz2_0 := blk_frozen HGz2 0
  have hfz2_1 := blk_frozen HGz2 1
  clear HGz2 hgz2
  go_enter Try.func61, Try.ntmps61
  go_wp2
  go_loopg [4, 5] k (fun kq v4 v5 w' => ∃ (x4_1 : Int) (x5_1 : Int) (x1000_1 : ByteArray) (x1001_1 : Int), v4 = .int .i64 x4_1 ∧ v5 = .int .i64 x5_1 ∧ Aside0 (lacquerref01_R_Unary.l0 kq x4_1 x5_1 x1000_1 x1001_1 = some (r1, r2, r3, r4)) ∧ Aside0 (kq ≤ k) ∧ Aside0 (IsS49 w0 w' g x1000_1 x1001_1) ∧ Aside0 (KeepBut w w' g none) ∧ Aside0 (Below w0.heap.size w0 w'))
  case atStart => exact ⟨(0), (s0_1), (s0_0), (s0_1), (by first | rfl | (simp; done) | (simp [*]; done)), (by first | rfl | (simp; done) | (simp [*]; done)), H', ⟨Nat.le_refl _⟩, ⟨by repeat (first | (with_reducible first | exact HI0.out | apply IsS49.alloc | apply IsS49.drewN | apply IsS49.drew | apply IsS49.set_0 | apply IsS49.set_1) | exact HI0.out)⟩, ⟨by repeat (first | (with_reducible first | exact HK.out | apply KeepBut.set_ | apply keep_drewN | apply keep_drew | apply keep_alloc) | exact HK.out)⟩, ⟨by repeat (first | (with_reducible first | exact HB.out | apply below_alloc | apply pw_below_drewN | apply below_drew1 | refine below_set ?_ (IsS49.ge HI0.out)) | exact HB.out)⟩⟩
  case round =>
    clear H'
    try clear p2
    try clear hcz2_0
    try clear hcz2_1
    try clear hfz2_0
    try clear hfz2_1
    obtain ⟨x4_1, x5_1, x1000_1, x1001_1, rfl, rfl, HA, HK1, HI0, HK, HB⟩ := hrel
    cases gk with
    | zero => exact absurd HA.out (by simp [lacquerref01_R_Unary.l0])
    | succ k1 =>
      have H := HA.out
      clear HA
      simp only [lacquerref01_R_Unary.l0] at H
      by_cases c3 : x4_1 > 16777216
      · rw [if_pos c3] at H
        have c3b0 : decide (16777216 < x4_1) = true := decide_eq_true c3
        clear c3
        simp only [Option.some.injEq, Prod.mk.injEq] at H
        obtain ⟨rfl, rfl, rfl, rfl⟩ := H
        go_wp2
        go_ret2
        exact ⟨by first | rfl | (simp [errW_none, errW_some] <;> rfl) | (simp [*, errW_none, errW_some] <;> rfl), by repeat (first | (with_reducible first | exact HI0.out | apply IsS49.alloc | apply IsS49.drewN | apply IsS49.drew | apply IsS49.set_0 | apply IsS49.set_1) | exact HI0.out), by repeat (first | (with_reducible first | exact HB.out | apply below_alloc | apply pw_below_drewN | apply below_drew1 | refine below_set ?_ (IsS49.ge HI0.out)) | exact HB.out), by repeat (first | (with_reducible first | exact HK.out | apply KeepBut.set_ | apply keep_drewN | apply keep_drew | apply keep_alloc) | exact HK.out)⟩
      · rw [if_neg c3] at H
        have c3b0 : decide (16777216 < x4_1) = false := decide_eq_false c3
        clear c3
        by_cases c4 : x5_1 ≥ (wrap64 ((x1000_1.size : Int) * 8))
        · rw [if_pos c4] at H
          have c4b0 : decide ((wrap64 ((x1000_1.size : Int) * 8)) ≤ x5_1) = true := decide_eq_true c4
          clear c4
          simp only [Option.some.injEq, Prod.mk.injEq] at H
          obtain ⟨rfl, rfl, rfl, rfl⟩ := H
          obtain ⟨HGz5, hgz5⟩ := HI0.out
          have hcz5_0 := cellS49_0 HGz5
          have hcz5_1 := cellS49_1 HGz5
          have hfz5_0 := blk_frozen HGz5 0
          have hfz5_1 := blk_frozen HGz5 1
          clear HGz5 hgz5
          go_wp2
          go_ret2
          exact ⟨by first | rfl | (simp [errW_none, errW_some] <;> rfl) | (simp [*, errW_none, errW_some] <;> rfl), by repeat (first | (with_reducible first | exact HI0.out | apply IsS49.alloc | apply IsS49.drewN | apply IsS49.drew | apply IsS49.set_0 | apply IsS49.set_1) | exact HI0.out), by repeat (first | (with_reducible first | exact HB.out | apply below_alloc | apply pw_below_drewN | apply below_drew1 | refine below_set ?_ (IsS49.ge HI0.out)) | exact HB.out), by repeat (first | (with_reducible first | exact HK.out | apply KeepBut.set_ | apply keep_drewN | apply keep_drew | apply keep_alloc) | exact HK.out)⟩
        · rw [if_neg c4] at H
          have c4b0 : decide ((wrap64 ((x1000_1.size : Int) * 8)) ≤ x5_1) = false := decide_eq_false c4
          clear c4
          replace H := Option.bind_eq_some_iff.mp H
          obtain ⟨⟨t171, t172, t173⟩, A60, H⟩ := H
          replace H : (if t171 = 1 then (some (x4_1, 0, t172, wrap64 (x5_1 + 1))) else (lacquerref01_R_Unary.l0 k1 (wrap64 (x4_1 + 1)) (wrap64 (x5_1 + 1)) t172 t173)) = some (r1, r2, r3, r4) := H
          have A6 := Aside0.mk A60
          clear A60
          by_cases c7 : t171 = 1
          · rw [if_pos c7] at H
            have c7b0 : (t171 == 1) = true := beq_iff_eq.mpr c7
            have c7b1 : (t171 != 1) = false := bne_eq_false_iff_eq.mpr c7
            clear c7
            simp only [Option.some.injEq, Prod.mk.injEq] at H
            obtain ⟨rfl, rfl, rfl, rfl⟩ := H
            obtain ⟨HGz8, hgz8⟩ := HI0.out
            have hcz8_0 := cellS49_0 HGz8
            have hcz8_1 := cellS49_1 HGz8
            have hfz8_0 := blk_frozen HGz8 0
            have hfz8_1 := blk_frozen HGz8 1
            clear HGz8 hgz8
            go_wp2_with (first | ((with_reducible refine gate_callee (f := 60) rfl ?_); refine goesL_ (some 24) rfl rfl Try.func60 (by kernel_rfl) rfl #[.pointer (some ⟨g, 0, none⟩), .int .i64 x5_1] rfl (by (try simp only [List.map_toArray, List.map_cons, List.map_nil]); first | done | rfl | (simp only [List.length_drop, List.length_take]; rfl)) ?_; (with_reducible refine (lacquerref01_R_bit.calls g x1000_1 x1001_1 x5_1 t171 t172 t173 w0 _ ?side1 ?side2 A6.out).mono ?_); (case side1 => repeat (first | (with_reducible first | exact HI0.out | apply IsS49.alloc | apply IsS49.drewN | apply IsS49.drew | apply IsS49.set_0 | apply IsS49.set_1) | exact HI0.out)); (case side2 => repeat (first | (with_reducible first | exact HB.out | apply below_alloc | apply pw_below_drewN | apply below_drew1 | refine below_set ?_ (IsS49.ge HI0.out)) | exact HB.out)); rintro e w9 ⟨rfl, hi, hb, hk⟩; refine ⟨_, rfl, ?_⟩; have n0_ := Aside0.mk (KeepBut.trans (by repeat (first | (with_reducible first | exact HK.out | apply KeepBut.set_ | apply keep_drewN | apply keep_drew | apply keep_alloc) | exact HK.out)) hk (.inl rfl)); have n1_ := Aside0.mk (hb); have n2_ := Aside0.mk (hi); clear HK; clear HB; clear HI0; have HK := n0_; have HB := n1_; have HI0 := n2_; clear n0_ n1_ n2_; (try clear hb); (try clear hb2); (try clear hk); (try clear hi); obtain ⟨HGz10, hgz10⟩ := HI0.out; have hcz10_0 := cellS49_0 HGz10; have hcz10_1 := cellS49_1 HGz10; have hfz10_0 := blk_frozen HGz10 0; have hfz10_1 := blk_frozen HGz10 1; clear HGz10 hgz10))
            go_ret2
            exact ⟨by first | rfl | (simp [errW_none, errW_some] <;> rfl) | (simp [*, errW_none, errW_some] <;> rfl), by repeat (first | (with_reducible first | exact HI0.out | apply IsS49.alloc | apply IsS49.drewN | apply IsS49.drew | apply IsS49.set_0 | apply IsS49.set_1) | exact HI0.out), by repeat (first | (with_reducible first | exact HB.out | apply below_alloc | apply pw_below_drewN | apply below_drew1 | refine below_set ?_ (IsS49.ge HI0.out)) | exact HB.out), by repeat (first | (with_reducible first | exact HK.out | apply KeepBut.set_ | apply keep_drewN | apply keep_drew | apply keep_alloc) | exact HK.out)⟩
          · rw [if_neg c7] at H
            have c7b0 : (t171 == 1) = false := beq_eq_false_iff_ne.mpr c7
            have c7b1 : (t171 != 1) = true := bne_iff_ne.mpr c7
            have H' := Aside0.mk H
            clear H
            obtain ⟨HGz11, hgz11⟩ := HI0.out
            have hcz11_0 := cellS49_0 HGz11
            have hcz11_1 := cellS49_1 HGz11
            have hfz11_0 := blk_frozen HGz11 0
            have hfz11_1 := blk_frozen HGz11 1
            clear HGz11 hgz11
            go_wp2_with (first | ((with_reducible refine gate_callee (f := 60) rfl ?_); refine goesL_ (some 24) rfl rfl Try.func60 (by kernel_rfl) rfl #[.pointer (some ⟨g, 0, none⟩), .int .i64 x5_1] rfl (by (try simp only [List.map_toArray, List.map_cons, List.map_nil]); first | done | rfl | (simp only [List.length_drop, List.length_take]; rfl)) ?_; (with_reducible refine (lacquerref01_R_bit.calls g x1000_1 x1001_1 x5_1 t171 t172 t173 w0 _ ?side1 ?side2 A6.out).mono ?_); (case side1 => repeat (first | (with_reducible first | exact HI0.out | apply IsS49.alloc | apply IsS49.drewN | apply IsS49.drew | apply IsS49.set_0 | apply IsS49.set_1) | exact HI0.out)); (case side2 => repeat (first | (with_reducible first | exact HB.out | apply below_alloc | apply pw_below_drewN | apply below_drew1 | refine below_set ?_ (IsS49.ge HI0.out)) | exact HB.out)); rintro e w12 ⟨rfl, hi, hb, hk⟩; refine ⟨_, rfl, ?_⟩; have n0_ := Aside0.mk (KeepBut.trans (by repeat (first | (with_reducible first | exact HK.out | apply KeepBut.set_ | apply keep_drewN | apply keep_drew | apply keep_alloc) | exact HK.out)) hk (.inl rfl)); have n1_ := Aside0.mk (hb); have n2_ := Aside0.mk (hi); clear HK; clear HB; clear HI0; have HK := n0_; have HB := n1_; have HI0 := n2_; clear n0_ n1_ n2_; (try clear hb); (try clear hb2); (try clear hk); (try clear hi)))
            go_roundg k1
            case measure => have := HK1.out; omega
            case rel => exact ⟨(wrap64 (x4_1 + 1)), (wrap64 (x5_1 + 1)), (t172), (t173), (by first | rfl | (simp; done) | (simp [*]; done)), (by first | rfl | (simp; done) | (simp [*]; done)), H', ⟨by have := HK1.out; omega⟩, ⟨by repeat (first | (with_reducible first | exact HI0.out | apply IsS49.alloc | apply IsS49.drewN | apply IsS49.drew | apply IsS49.set_0 | apply IsS49.set_1) | exact HI0.out)⟩, ⟨by repeat (first | (with_reducible first | exact HK.out | apply KeepBut.set_ | apply keep_drewN | apply keep_drew | apply keep_alloc) | exact HK.out)⟩, ⟨by repeat (first | (with_reducible first | exact HB.out | apply below_alloc | apply pw_below_drewN | apply below_drew1 | refine below_set ?_ (IsS49.ge HI0.out)) | exact HB.out)⟩⟩

/-! ### lacquerref01_Unfold: function 62 -/
def lacquerref01_Unfold.f (a0 : Int) : Option (Int) := if (Go.bits .and .u64 a0 1) = 0 then (some (wrap64 (a0 / 2))) else (some (wrap64 ((wrap64 (-(wrap64 (a0 / 2)))) - 1)))
set_option maxHeartbeats 8000000 in
set_option maxRecDepth 100000 in
theorem lacquerref01_Unfold.calls (a0 : Int) (r : Int) (w : World) (h : lacquerref01_Unfold.f a0 = some r) :
    Calls Try.prog 62 #[.int .u64 a0] w fun e w' => e = .returned (.int .i64 r) ∧ Drawn0 w w' := by
  have H : (if (Go.bits .and .u64 a0 1) = 0 then (some (wrap64 (a0 / 2))) else (some (wrap64 ((wrap64 (-(wrap64 (a0 / 2)))) - 1)))) = some r := h
  clear h
  by_cases c2 : (Go.bits .and .u64 a0 1) = 0
  · rw [if_pos c2] at H
    have c2b0 : ((Go.bits .and .u64 a0 1) == 0) = true := beq_iff_eq.mpr c2
    have c2b1 : ((Go.bits .and .u64 a0 1) != 0) = false := bne_eq_false_iff_eq.mpr c2
    clear c2
    obtain rfl := Option.some.inj H
    go_enter Try.func62, Try.ntmps62
    go_wp2
    go_ret
    exact ⟨by first | rfl | (simp; done) | (simp [*]; done), by repeat (first | exact Drawn0.refl _ | apply Drawn0.step)⟩
  · rw [if_neg c2] at H
    have c2b0 : ((Go.bits .and .u64 a0 1) == 0) = false := beq_eq_false_iff_ne.mpr c2
    have c2b1 : ((Go.bits .and .u64 a0 1) != 0) = true := bne_iff_ne.mpr c2
    obtain rfl := Option.some.inj H
    go_enter Try.func62, Try.ntmps62
    go_wp2
    go_ret
    exact ⟨by first | rfl | (simp; done) | (simp [*]; done), by repeat (first | exact Drawn0.refl _ | apply Drawn0.step)⟩

/-! ### lacquerref01_R_Rice: function 44 -/
def lacquerref01_R_Rice.j0 : Nat → Int → Bool → ByteArray → Int → Option (Int × Int × ByteArray × Int)
  | 0, _, _, _, _ => none
  | k + 1, x1, x15, x1000, x1001 => if x15 = true then (some (0, 11, x1000, x1001)) else ((lacquerref01_R_Unary.f k x1000 x1001).bind fun bt174 => (if bt174.2.1 = 0 then ((lacquerref01_R_Get.f k bt174.2.2.1 bt174.2.2.2 x1).bind fun bt178 => (if bt178.2.1 = 0 then (if 0 ≤ (IntKind.u64.wrap (x1)) then ((lacquerref01_Unfold.f (IntKind.u64.wrap ((shl .u64 (IntKind.u64.wrap (bt174.1)) (IntKind.u64.wrap (x1))) + bt178.1))).bind fun t182 => (some (t182, 0, bt178.2.2.1, bt178.2.2.2))) else (none)) else (some (0, bt178.2.1, bt178.2.2.1, x1001)))) else (some (0, bt174.2.1, bt174.2.2.1, bt174.2.2.2))))
def lacquerref01_R_Rice.f (k : Nat) (s0_0 : ByteArray) (s0_1 : Int) (a1 : Int) : Option (Int × Int × ByteArray × Int) := if a1 < 0 then (lacquerref01_R_Rice.j0 k a1 true s0_0 s0_1) else (lacquerref01_R_Rice.j0 k a1 (decide (a1 > 30)) s0_0 s0_1)
set_option maxHeartbeats 8000000 in
set_option maxRecDepth 100000 in
theorem lacquerref01_R_Rice.calls (k : Nat) (g : Nat) (s0_0 : ByteArray) (s0_1 : Int) (a1 : Int) (r1 : Int) (r2 : Int) (r3 : ByteArray) (r4 : Int) (w0 w : World) (hI : IsS49 w0 w g s0_0 s0_1) (hB : Below w0.heap.size w0 w) (h : lacquerref01_R_Rice.f k s0_0 s0_1 a1 = some (r1, r2, r3, r4)) :
    Calls Try.prog 44 #[.pointer (some ⟨g, 0, none⟩), .int .i64 a1] w fun e w' => e = .returned (.tuple #[.int .i64 r1, .int .i64 r2]) ∧ IsS49 w0 w' g r3 r4 ∧ Below w0.heap.size w0 w' ∧ KeepBut w w' g none := by
  have HI0 := Aside0.mk hI
  have HK := Aside0.mk (KeepBut.refl w g none)
  have HL := Aside0.mk hB.size
  clear hI
  have HW0 := Aside0.mk hB.size
  have HB := Aside0.mk hB
  clear hB
  have H : (if a1 < 0 then (lacquerref01_R_Rice.j0 k a1 true s0_0 s0_1) else (lacquerref01_R_Rice.j0 k a1 (decide (a1 > 30)) s0_0 s0_1)) = some (r1, r2, r3, r4) := h
  clear h
  have HC3 := Aside0.mk H
  clear H
  go_enter Try.func44, Try.ntmps44
  go_upto_region 1 with (fail)
  go_cut [15] (fun v15 wc => ∃ (kq : Nat) (x15_2 : Bool), v15 = .bool x15_2 ∧ Aside0 (lacquerref01_R_Rice.j0 kq a1 x15_2 s0_0 s0_1 = some (r1, r2, r3, r4)) ∧ Aside0 (kq ≤ k) ∧ Aside0 (IsS49 w0 wc g s0_0 s0_1) ∧ Aside0 (KeepBut w wc g none) ∧ Aside0 (Below w0.heap.size w0 wc))
  case first =>
    have H := HC3.out
    clear HC3
    by_cases c4 : a1 < 0
    · rw [if_pos c4] at H
      have c4b0 : decide (a1 < 0) = true := decide_eq_true c4
      clear c4
      (first | rw [c4b0] | (simp only [i64_w, i32_w]; rw [c4b0]) | skip)
      have H' := Aside0.mk H
      clear H
      go_wp2
      go_meet
      case rel => exact ⟨_, (true), (by first | rfl | (simp; done) | (simp [*]; done)), H', ⟨by first | omega | exact Nat.le_refl _⟩, ⟨by repeat (first | (with_reducible first | exact HI0.out | apply IsS49.alloc | apply IsS49.drewN | apply IsS49.drew | apply IsS49.set_0 | apply IsS49.set_1) | exact HI0.out)⟩, ⟨by repeat (first | (with_reducible first | exact HK.out | apply KeepBut.set_ | apply keep_drewN | apply keep_drew | apply keep_alloc) | exact HK.out)⟩, ⟨by repeat (first | (with_reducible first | exact HB.out | apply below_alloc | apply pw_below_drewN | apply below_drew1 | refine below_set ?_ (IsS49.ge HI0.out)) | exact HB.out)⟩⟩
    · rw [if_neg c4] at H
      have c4b0 : decide (a1 < 0) = false := decide_eq_false c4
      clear c4
      (first | rw [c4b0] | (simp only [i64_w, i32_w]; rw [c4b0]) | skip)
      have H' := Aside0.mk H
      clear H
      go_wp2
      go_meet
      case rel => exact ⟨_, (decide (a1 > 30)), (by first | rfl | (simp; done) | (simp [*]; done)), H', ⟨by first | omega | exact Nat.le_refl _⟩, ⟨by repeat (first | (with_reducible first | exact HI0.out | apply IsS49.alloc | apply IsS49.drewN | apply IsS49.drew | apply IsS49.set_0 | apply IsS49.set_1) | exact HI0.out)⟩, ⟨by repeat (first | (with_reducible first | exact HK.out | apply KeepBut.set_ | apply keep_drewN | apply keep_drew | apply keep_alloc) | exact HK.out)⟩, ⟨by repeat (first | (with_reducible first | exact HB.out | apply below_alloc | apply pw_below_drewN | apply below_drew1 | refine below_set ?_ (IsS49.ge HI0.out)) | exact HB.out)⟩⟩
  case rest =>
    clear HC3
    try clear p2
    try clear c4
    try clear c4b0
    obtain ⟨kq, x15_2, rfl, HA, HJ2, HI0, HK, HB⟩ := hcut
    cases kq with
    | zero => exact absurd HA.out (by simp [lacquerref01_R_Rice.j0])
    | succ kj2 =>
      have H := HA.out
      clear HA
      simp only [lacquerref01_R_Rice.j0] at H
      by_cases c5 : x15_2 = true
      · subst c5
        have H1 : (some (0, 11, s0_0, s0_1)) = some (r1, r2, r3, r4) := by rw [if_pos rfl] at H; exact H
        clear H
        have H := H1
        clear H1
        simp only [Option.some.injEq, Prod.mk.injEq] at H
        obtain ⟨rfl, rfl, rfl, rfl⟩ := H
        go_wp2
        go_ret2
        exact ⟨by first | rfl | (simp [errW_none, errW_some] <;> rfl) | (simp [*, errW_none, errW_some] <;> rfl), by repeat (first | (with_reducible first | exact HI0.out | apply IsS49.alloc | apply IsS49.drewN | apply IsS49.drew | apply IsS49.set_0 | apply IsS49.set_1) | exact HI0.out), by repeat (first | (with_reducible first | exact HB.out | apply below_alloc | apply pw_below_drewN | apply below_drew1 | refine below_set ?_ (IsS49.ge HI0.out)) | exact HB.out), by repeat (first | (with_reducible first | exact HK.out | apply KeepBut.set_ | apply keep_drewN | apply keep_drew | apply keep_alloc) | exact HK.out)⟩
      · replace c5 := Bool.eq_false_iff.mpr c5
        subst c5
        have H1 : ((lacquerref01_R_Unary.f kj2 s0_0 s0_1).bind fun bt174 => (if bt174.2.1 = 0 then ((lacquerref01_R_Get.f kj2 bt174.2.2.1 bt174.2.2.2 a1).bind fun bt178 => (if bt178.2.1 = 0 then (if 0 ≤ (IntKind.u64.wrap (a1)) then ((lacquerref01_Unfold.f (IntKind.u64.wrap ((shl .u64 (IntKind.u64.wrap (bt174.1)) (IntKind.u64.wrap (a1))) + bt178.1))).bind fun t182 => (some (t182, 0, bt178.2.2.1, bt178.2.2.2))) else (none)) else (some (0, bt178.2.1, bt178.2.2.1, s0_1)))) else (some (0, bt174.2.1, bt174.2.2.1, bt174.2.2.2)))) = some (r1, r2, r3, r4) := by rw [if_neg (show ¬ (false = true) by decide)] at H; exact H
        clear H
        have H := H1
        clear H1
        replace H := Option.bind_eq_some_iff.mp H
        obtain ⟨⟨t174, t175, t176, t177⟩, A60, H⟩ := H
        replace H : (if t175 = 0 then ((lacquerref01_R_Get.f kj2 t176 t177 a1).bind fun bt178 => (if bt178.2.1 = 0 then (if 0 ≤ (IntKind.u64.wrap (a1)) then ((lacquerref01_Unfold.f (IntKind.u64.wrap ((shl .u64 (IntKind.u64.wrap (t174)) (IntKind.u64.wrap (a1))) + bt178.1))).bind fun t182 => (some (t182, 0, bt178.2.2.1, bt178.2.2.2))) else (none)) else (some (0, bt178.2.1, bt178.2.2.1, s0_1)))) else (some (0, t175, t176, t177))) = some (r1, r2, r3, r4) := H
        have A6 := Aside0.mk A60
        clear A60
        by_cases c7 : t175 = 0
        · rw [if_pos c7] at H
          have c7b0 : (t175 == 0) = true := beq_iff_eq.mpr c7
          have c7b1 : (t175 != 0) = false := bne_eq_false_iff_eq.mpr c7
          clear c7
          replace H := Option.bind_eq_some_iff.mp H
          obtain ⟨⟨t178, t179, t180, t181⟩, A80, H⟩ := H
          replace H : (if t179 = 0 then (if 0 ≤ (IntKind.u64.wrap (a1)) then ((lacquerref01_Unfold.f (IntKind.u64.wrap ((shl .u64 (IntKind.u64.wrap (t174)) (IntKind.u64.wrap (a1))) + t178))).bind fun t182 => (some (t182, 0, t180, t181))) else (none)) else (some (0, t179, t180, s0_1))) = some (r1, r2, r3, r4) := H
          have A8 := Aside0.mk A80
          clear A80
          by_cases c9 : t179 = 0
          · rw [if_pos c9] at H
            have c9b0 : (t179 == 0) = true := beq_iff_eq.mpr c9
            have c9b1 : (t179 != 0) = false := bne_eq_false_iff_eq.mpr c9
            clear c9
            obtain ⟨ji10, hji10⟩ : ∃ j_ : Int, (IntKind.u64.wrap (a1)) = j_ := ⟨_, rfl⟩
            replace H : (if 0 ≤ (ji10) then ((lacquerref01_Unfold.f (IntKind.u64.wrap ((shl .u64 (IntKind.u64.wrap (t174)) (ji10)) + t178))).bind fun t182 => (some (t182, 0, t180, t181))) else (none)) = some (r1, r2, r3, r4) := by first | (rw [hji10] at H; exact H) | (simp only [hji10] at H ⊢; exact H)
            (try rw [hji10] at A6)
            (try rw [hji10] at A8)
            by_cases c11 : 0 ≤ (ji10)
            · rw [if_pos c11] at H
              have c11b0 := eq_true c11
              have c11b1 : decide (0 ≤ (ji10)) = true := decide_eq_true c11
              clear c11
              obtain ⟨ji12, hji12⟩ : ∃ j_ : Int, (shl .u64 (IntKind.u64.wrap (t174)) (ji10)) = j_ := ⟨_, rfl⟩
              replace H : ((lacquerref01_Unfold.f (IntKind.u64.wrap ((ji12) + t178))).bind fun t182 => (some (t182, 0, t180, t181))) = some (r1, r2, r3, r4) := by first | (rw [hji12] at H; exact H) | (simp only [hji12] at H ⊢; exact H)
              (try rw [hji12] at A6)
              (try rw [hji12] at A8)
              have hji12_ : (IntKind.u64.wrap ((IntKind.u64.wrap (t174)) * 2 ^ min (ji10).toNat 64)) = ji12 := hji12
              have hji12z : (ji10) ≤ 64 → (IntKind.u64.wrap ((IntKind.u64.wrap (t174)) * 2 ^ (ji10).toNat)) = ji12 := shl_small hji12
              replace H := Option.bind_eq_some_iff.mp H
              obtain ⟨t182, A130, H⟩ := H
              replace H : (some (t182, 0, t180, t181)) = some (r1, r2, r3, r4) := H
              have A13 := Aside0.mk A130
              clear A130
              simp only [Option.some.injEq, Prod.mk.injEq] at H
              obtain ⟨rfl, rfl, rfl, rfl⟩ := H
              obtain ⟨HGz14, hgz14⟩ := HI0.out
              have hcz14_0 := cellS49_0 HGz14
              have hcz14_1 := cellS49_1 HGz14
              have hfz14_0 := blk_frozen HGz14 0
              have hfz14_1 := blk_frozen HGz14 1
              clear HGz14 hgz14
              go_wp2_with (first | ((with_reducible refine gate_callee (f := 61) rfl ?_); refine goesL_ (some 22) rfl rfl Try.func61 (by kernel_rfl) rfl #[.pointer (some ⟨g, 0, none⟩)] rfl (by (try simp only [List.map_toArray, List.map_cons, List.map_nil]); first | done | rfl | (simp only [List.length_drop, List.length_take]; rfl)) ?_; (with_reducible refine (lacquerref01_R_Unary.calls kj2 g s0_0 s0_1 t174 t175 t176 t177 w0 _ ?side1 ?side2 A6.out).mono ?_); (case side1 => repeat (first | (with_reducible first | exact HI0.out | apply IsS49.alloc | apply IsS49.drewN | apply IsS49.drew | apply IsS49.set_0 | apply IsS49.set_1) | exact HI0.out)); (case side2 => repeat (first | (with_reducible first | exact HB.out | apply below_alloc | apply pw_below_drewN | apply below_drew1 | refine below_set ?_ (IsS49.ge HI0.out)) | exact HB.out)); rintro e w15 ⟨rfl, hi, hb, hk⟩; refine ⟨_, rfl, ?_⟩; have n0_ := Aside0.mk (KeepBut.trans (by repeat (first | (with_reducible first | exact HK.out | apply KeepBut.set_ | apply keep_drewN | apply keep_drew | apply keep_alloc) | exact HK.out)) hk (.inl rfl)); have n1_ := Aside0.mk (hb); have n2_ := Aside0.mk (hi); clear HK; clear HB; clear HI0; have HK := n0_; have HB := n1_; have HI0 := n2_; clear n0_ n1_ n2_; (try clear hb); (try clear hb2); (try clear hk); (try clear hi)) | ((with_reducible refine gate_callee (f := 43) rfl ?_); refine goesL_ (some 31) rfl rfl Try.func43 (by kernel_rfl) rfl #[.pointer (some ⟨g, 0, none⟩), .int .i64 a1] rfl (by (try simp only [List.map_toArray, List.map_cons, List.map_nil]); first | done | rfl | (simp only [List.length_drop, List.length_take]; rfl)) ?_; (with_reducible refine (lacquerref01_R_Get.calls kj2 g t176 t177 a1 t178 t179 t180 t181 w0 _ ?side1 ?side2 A8.out).mono ?_); (case side1 => repeat (first | (with_reducible first | exact HI0.out | apply IsS49.alloc | apply IsS49.drewN | apply IsS49.drew | apply IsS49.set_0 | apply IsS49.set_1) | exact HI0.out)); (case side2 => repeat (first | (with_reducible first | exact HB.out | apply below_alloc | apply pw_below_drewN | apply below_drew1 | refine below_set ?_ (IsS49.ge HI0.out)) | exact HB.out)); rintro e w16 ⟨rfl, hi, hb, hk⟩; refine ⟨_, rfl, ?_⟩; have n0_ := Aside0.mk (KeepBut.trans (by repeat (first | (with_reducible first | exact HK.out | apply KeepBut.set_ | apply keep_drewN | apply keep_drew | apply keep_alloc) | exact HK.out)) hk (.inl rfl)); have n1_ := Aside0.mk (hb); have n2_ := Aside0.mk (hi); clear HK; clear HB; clear HI0; have HK := n0_; have HB := n1_; have HI0 := n2_; clear n0_ n1_ n2_; (try clear hb); (try clear hb2); (try clear hk); (try clear hi)) | ((with_reducible refine gate_callee (f := 62) rfl ?_); refine goesL_ (some 48) rfl rfl Try.func62 (by kernel_rfl) rfl #[.int .u64 (IntKind.u64.wrap ((ji12) + t178))] rfl (by (try simp only [List.map_toArray, List.map_cons, List.map_nil]); first | done | (simp only [hji12]; rfl) | rfl | (simp only [List.length_drop, List.length_take]; rfl)) ?_; (with_reducible refine (lacquerref01_Unfold.calls (IntKind.u64.wrap ((ji12) + t178)) t182 _ A13.out).mono ?_); rintro e w' ⟨rfl, ⟨nd, rfl⟩⟩; refine ⟨_, rfl, ?_⟩))
              go_ret2
              exact ⟨by first | rfl | (simp [errW_none, errW_some] <;> rfl) | (simp only [← hji10, ← hji12]; first | rfl | (simp [errW_none, errW_some] <;> rfl)) | (simp [*, errW_none, errW_some] <;> rfl), by repeat (first | (with_reducible first | exact HI0.out | apply IsS49.alloc | apply IsS49.drewN | apply IsS49.drew | apply IsS49.set_0 | apply IsS49.set_1) | exact HI0.out), by repeat (first | (with_reducible first | exact HB.out | apply below_alloc | apply pw_below_drewN | apply below_drew1 | refine below_set ?_ (IsS49.ge HI0.out)) | exact HB.out), by repeat (first | (with_reducible first | exact HK.out | apply KeepBut.set_ | apply keep_drewN | apply keep_drew | apply keep_alloc) | exact HK.out)⟩
            · rw [if_neg c11] at H
              exact absurd H (by simp)
          · rw [if_neg c9] at H
            have c9b0 : (t179 == 0) = false := beq_eq_false_iff_ne.mpr c9
            have c9b1 : (t179 != 0) = true := bne_iff_ne.mpr c9
            simp only [Option.some.injEq, Prod.mk.injEq] at H
            obtain ⟨rfl, rfl, rfl, rfl⟩ := H
            obtain ⟨HGz17, hgz17⟩ := HI0.out
            have hcz17_0 := cellS49_0 HGz17
            have hcz17_1 := cellS49_1 HGz17
            have hfz17_0 := blk_frozen HGz17 0
            have hfz17_1 := blk_frozen HGz17 1
            clear HGz17 hgz17
            go_wp2_with (first | ((with_reducible refine gate_callee (f := 61) rfl ?_); refine goesL_ (some 22) rfl rfl Try.func61 (by kernel_rfl) rfl #[.pointer (some ⟨g, 0, none⟩)] rfl (by (try simp only [List.map_toArray, List.map_cons, List.map_nil]); first | done | rfl | (simp only [List.length_drop, List.length_take]; rfl)) ?_; (with_reducible refine (lacquerref01_R_Unary.calls kj2 g s0_0 s0_1 t174 t175 t176 t177 w0 _ ?side1 ?side2 A6.out).mono ?_); (case side1 => repeat (first | (with_reducible first | exact HI0.out | apply IsS49.alloc | apply IsS49.drewN | apply IsS49.drew | apply IsS49.set_0 | apply IsS49.set_1) | exact HI0.out)); (case side2 => repeat (first | (with_reducible first | exact HB.out | apply below_alloc | apply pw_below_drewN | apply below_drew1 | refine below_set ?_ (IsS49.ge HI0.out)) | exact HB.out)); rintro e w18 ⟨rfl, hi, hb, hk⟩; refine ⟨_, rfl, ?_⟩; have n0_ := Aside0.mk (KeepBut.trans (by repeat (first | (with_reducible first | exact HK.out | apply KeepBut.set_ | apply keep_drewN | apply keep_drew | apply keep_alloc) | exact HK.out)) hk (.inl rfl)); have n1_ := Aside0.mk (hb); have n2_ := Aside0.mk (hi); clear HK; clear HB; clear HI0; have HK := n0_; have HB := n1_; have HI0 := n2_; clear n0_ n1_ n2_; (try clear hb); (try clear hb2); (try clear hk); (try clear hi)) | ((with_reducible refine gate_callee (f := 43) rfl ?_); refine goesL_ (some 31) rfl rfl Try.func43 (by kernel_rfl) rfl #[.pointer (some ⟨g, 0, none⟩), .int .i64 a1] rfl (by (try simp only [List.map_toArray, List.map_cons, List.map_nil]); first | done | rfl | (simp only [List.length_drop, List.length_take]; rfl)) ?_; (with_reducible refine (lacquerref01_R_Get.calls kj2 g t176 t177 a1 t178 t179 t180 t181 w0 _ ?side1 ?side2 A8.out).mono ?_); (case side1 => repeat (first | (with_reducible first | exact HI0.out | apply IsS49.alloc | apply IsS49.drewN | apply IsS49.drew | apply IsS49.set_0 | apply IsS49.set_1) | exact HI0.out)); (case side2 => repeat (first | (with_reducible first | exact HB.out | apply below_alloc | apply pw_below_drewN | apply below_drew1 | refine below_set ?_ (IsS49.ge HI0.out)) | exact HB.out)); rintro e w19 ⟨rfl, hi, hb, hk⟩; refine ⟨_, rfl, ?_⟩; have n0_ := Aside0.mk (KeepBut.trans (by repeat (first | (with_reducible first | exact HK.out | apply KeepBut.set_ | apply keep_drewN | apply keep_drew | apply keep_alloc) | exact HK.out)) hk (.inl rfl)); have n1_ := Aside0.mk (hb); have n2_ := Aside0.mk (hi); clear HK; clear HB; clear HI0; have HK := n0_; have HB := n1_; have HI0 := n2_; clear n0_ n1_ n2_; (try clear hb); (try clear hb2); (try clear hk); (try clear hi); obtain ⟨HGz20, hgz20⟩ := HI0.out; have hcz20_0 := cellS49_0 HGz20; have hcz20_1 := cellS49_1 HGz20; have hfz20_0 := blk_frozen HGz20 0; have hfz20_1 := blk_frozen HGz20 1; clear HGz20 hgz20))
            go_ret2
            exact ⟨by first | rfl | (simp [errW_none, errW_some] <;> rfl) | (simp [*, errW_none, errW_some] <;> rfl), by repeat (first | (with_reducible first | exact HI0.out | apply IsS49.alloc | apply IsS49.drewN | apply IsS49.drew | apply IsS49.set_0 | apply IsS49.set_1) | exact HI0.out), by repeat (first | (with_reducible first | exact HB.out | apply below_alloc | apply pw_below_drewN | apply below_drew1 | refine below_set ?_ (IsS49.ge HI0.out)) | exact HB.out), by repeat (first | (with_reducible first | exact HK.out | apply KeepBut.set_ | apply keep_drewN | apply keep_drew | apply keep_alloc) | exact HK.out)⟩
        · rw [if_neg c7] at H
          have c7b0 : (t175 == 0) = false := beq_eq_false_iff_ne.mpr c7
          have c7b1 : (t175 != 0) = true := bne_iff_ne.mpr c7
          simp only [Option.some.injEq, Prod.mk.injEq] at H
          obtain ⟨rfl, rfl, rfl, rfl⟩ := H
          obtain ⟨HGz21, hgz21⟩ := HI0.out
          have hcz21_0 := cellS49_0 HGz21
          have hcz21_1 := cellS49_1 HGz21
          have hfz21_0 := blk_frozen HGz21 0
          have hfz21_1 := blk_frozen HGz21 1
          clear HGz21 hgz21
          go_wp2_with (first | ((with_reducible refine gate_callee (f := 61) rfl ?_); refine goesL_ (some 22) rfl rfl Try.func61 (by kernel_rfl) rfl #[.pointer (some ⟨g, 0, none⟩)] rfl (by (try simp only [List.map_toArray, List.map_cons, List.map_nil]); first | done | rfl | (simp only [List.length_drop, List.length_take]; rfl)) ?_; (with_reducible refine (lacquerref01_R_Unary.calls kj2 g s0_0 s0_1 t174 t175 t176 t177 w0 _ ?side1 ?side2 A6.out).mono ?_); (case side1 => repeat (first | (with_reducible first | exact HI0.out | apply IsS49.alloc | apply IsS49.drewN | apply IsS49.drew | apply IsS49.set_0 | apply IsS49.set_1) | exact HI0.out)); (case side2 => repeat (first | (with_reducible first | exact HB.out | apply below_alloc | apply pw_below_drewN | apply below_drew1 | refine below_set ?_ (IsS49.ge HI0.out)) | exact HB.out)); rintro e w22 ⟨rfl, hi, hb, hk⟩; refine ⟨_, rfl, ?_⟩; have n0_ := Aside0.mk (KeepBut.trans (by repeat (first | (with_reducible first | exact HK.out | apply KeepBut.set_ | apply keep_drewN | apply keep_drew | apply keep_alloc) | exact HK.out)) hk (.inl rfl)); have n1_ := Aside0.mk (hb); have n2_ := Aside0.mk (hi); clear HK; clear HB; clear HI0; have HK := n0_; have HB := n1_; have HI0 := n2_; clear n0_ n1_ n2_; (try clear hb); (try clear hb2); (try clear hk); (try clear hi)))
          go_ret2
          exact ⟨by first | rfl | (simp [errW_none, errW_some] <;> rfl) | (simp [*, errW_none, errW_some] <;> rfl), by repeat (first | (with_reducible first | exact HI0.out | apply IsS49.alloc | apply IsS49.drewN | apply IsS49.drew | apply IsS49.set_0 | apply IsS49.set_1) | exact HI0.out), by repeat (first | (with_reducible first | exact HB.out | apply below_alloc | apply pw_below_drewN | apply below_drew1 | refine below_set ?_ (IsS49.ge HI0.out)) | exact HB.out), by repeat (first | (with_reducible first | exact HK.out | apply KeepBut.set_ | apply keep_drewN | apply keep_drew | apply keep_alloc) | exact HK.out)⟩

end Go.Proofs.Ytfhekkoibmlmpaa.Q

/- Printed by a program of ours (pp.sh), partly over contracts proved by hand. -/
namespace Go.Proofs.Ytfhekkoibmlmpaa.Q
open Go.RowKit Go.Proofs.YtfhekkoibmlmpaaW.PrintWords Go.Proofs.YtfhekkoibmlmpaaW.PrintLast Go.Proofs.YtfhekkoibmlmpaaW.PrintMore
attribute [local go_sem] max2_int min2_int max_two min_two max_three min_three max_four min_four   -- for this text's walks alone
set_option linter.unusedVariables false
set_option linter.unusedSimpArgs false

/-! ### lacquerref01_R_Signed: function 45 -/
def lacquerref01_R_Signed.f (k : Nat) (s0_0 : ByteArray) (s0_1 : Int) (a1 : Int) : Option (Int × Int × ByteArray × Int) := if a1 < 1 then (some (0, 11, s0_0, s0_1)) else ((lacquerref01_R_Get.f k s0_0 s0_1 a1).bind fun bt183 => (if bt183.2.1 = 0 then (if a1 < 64 then (if 0 ≤ (IntKind.u64.wrap (wrap64 (a1 - 1))) then (if (shr .u64 bt183.1 (IntKind.u64.wrap (wrap64 (a1 - 1)))) = 1 then (if 0 ≤ (IntKind.u64.wrap (a1)) then (some (wrap64 ((wrap64 (bt183.1)) - (shl .i64 1 (IntKind.u64.wrap (a1)))), 0, bt183.2.2.1, bt183.2.2.2)) else (none)) else (some (wrap64 (bt183.1), 0, bt183.2.2.1, bt183.2.2.2))) else (none)) else (some (wrap64 (bt183.1), 0, bt183.2.2.1, bt183.2.2.2))) else (some (0, bt183.2.1, bt183.2.2.1, bt183.2.2.2))))
set_option maxHeartbeats 8000000 in
set_option maxRecDepth 100000 in
theorem lacquerref01_R_Signed.calls (k : Nat) (g : Nat) (s0_0 : ByteArray) (s0_1 : Int) (a1 : Int) (r1 : Int) (r2 : Int) (r3 : ByteArray) (r4 : Int) (w0 w : World) (hI : IsS49 w0 w g s0_0 s0_1) (hB : Below w0.heap.size w0 w) (h : lacquerref01_R_Signed.f k s0_0 s0_1 a1 = some (r1, r2, r3, r4)) :
    Calls Try.prog 45 #[.pointer (some ⟨g, 0, none⟩), .int .i64 a1] w fun e w' => e = .returned (.tuple #[.int .i64 r1, .int .i64 r2]) ∧ IsS49 w0 w' g r3 r4 ∧ Below w0.heap.size w0 w' ∧ KeepBut w w' g none := by
  have HI0 := Aside0.mk hI
  have HK := Aside0.mk (KeepBut.refl w g none)
  have HL := Aside0.mk hB.size
  clear hI
  have HW0 := Aside0.mk hB.size
  have HB := Aside0.mk hB
  clear hB
  have H : (if a1 < 1 then (some (0, 11, s0_0, s0_1)) else ((lacquerref01_R_Get.f k s0_0 s0_1 a1).bind fun bt183 => (if bt183.2.1 = 0 then (if a1 < 64 then (if 0 ≤ (IntKind.u64.wrap (wrap64 (a1 - 1))) then (if (shr .u64 bt183.1 (IntKind.u64.wrap (wrap64 (a1 - 1)))) = 1 then (if 0 ≤ (IntKind.u64.wrap (a1)) then (some (wrap64 ((wrap64 (bt183.1)) - (shl .i64 1 (IntKind.u64.wrap (a1)))), 0, bt183.2.2.1, bt183.2.2.2)) else (none)) else (some (wrap64 (bt183.1), 0, bt183.2.2.1, bt183.2.2.2))) else (none)) else (some (wrap64 (bt183.1), 0, bt183.2.2.1, bt183.2.2.2))) else (some (0, bt183.2.1, bt183.2.2.1, bt183.2.2.2))))) = some (r1, r2, r3, r4) := h
  clear h
  by_cases c3 : a1 < 1
  · rw [if_pos c3] at H
    have c3b0 : decide (a1 < 1) = true := decide_eq_true c3
    clear c3
    simp only [Option.some.injEq, Prod.mk.injEq] at H
    obtain ⟨rfl, rfl, rfl, rfl⟩ := H
    go_enter Try.func45, Try.ntmps45
    go_wp2
    go_ret2
    exact ⟨by first | rfl | (simp [errW_none, errW_some] <;> rfl) | (simp [*, errW_none, errW_some] <;> rfl), by repeat (first | (with_reducible first | exact HI0.out | apply IsS49.alloc | apply IsS49.drewN | apply IsS49.drew | apply IsS49.set_0 | apply IsS49.set_1) | exact HI0.out), by repeat (first | (with_reducible first | exact HB.out | apply below_alloc | apply pw_below_drewN | apply below_drew1 | refine below_set ?_ (IsS49.ge HI0.out)) | exact HB.out), by repeat (first | (with_reducible first | exact HK.out | apply KeepBut.set_ | apply keep_drewN | apply keep_drew | apply keep_alloc) | exact HK.out)⟩
  · rw [if_neg c3] at H
    have c3b0 : decide (a1 < 1) = false := decide_eq_false c3
    clear c3
    replace H := Option.bind_eq_some_iff.mp H
    obtain ⟨⟨t183, t184, t185, t186⟩, A40, H⟩ := H
    replace H : (if t184 = 0 then (if a1 < 64 then (if 0 ≤ (IntKind.u64.wrap (wrap64 (a1 - 1))) then (if (shr .u64 t183 (IntKind.u64.wrap (wrap64 (a1 - 1)))) = 1 then (if 0 ≤ (IntKind.u64.wrap (a1)) then (some (wrap64 ((wrap64 (t183)) - (shl .i64 1 (IntKind.u64.wrap (a1)))), 0, t185, t186)) else (none)) else (some (wrap64 (t183), 0, t185, t186))) else (none)) else (some (wrap64 (t183), 0, t185, t186))) else (some (0, t184, t185, t186))) = some (r1, r2, r3, r4) := H
    have A4 := Aside0.mk A40
    clear A40
    by_cases c5 : t184 = 0
    · rw [if_pos c5] at H
      have c5b0 : (t184 == 0) = true := beq_iff_eq.mpr c5
      have c5b1 : (t184 != 0) = false := bne_eq_false_iff_eq.mpr c5
      clear c5
      by_cases c6 : a1 < 64
      · rw [if_pos c6] at H
        have c6b0 : decide (a1 < 64) = true := decide_eq_true c6
        clear c6
        obtain ⟨ji7, hji7⟩ : ∃ j_ : Int, (IntKind.u64.wrap (wrap64 (a1 - 1))) = j_ := ⟨_, rfl⟩
        replace H : (if 0 ≤ (ji7) then (if (shr .u64 t183 (ji7)) = 1 then (if 0 ≤ (IntKind.u64.wrap (a1)) then (some (wrap64 ((wrap64 (t183)) - (shl .i64 1 (IntKind.u64.wrap (a1)))), 0, t185, t186)) else (none)) else (some (wrap64 (t183), 0, t185, t186))) else (none)) = some (r1, r2, r3, r4) := by first | (rw [hji7] at H; exact H) | (simp only [hji7] at H ⊢; exact H)
        (try rw [hji7] at A4)
        by_cases c8 : 0 ≤ (ji7)
        · rw [if_pos c8] at H
          have c8b0 := eq_true c8
          have c8b1 : decide (0 ≤ (ji7)) = true := decide_eq_true c8
          clear c8
          obtain ⟨ji9, hji9⟩ : ∃ j_ : Int, (shr .u64 t183 (ji7)) = j_ := ⟨_, rfl⟩
          replace H : (if (ji9) = 1 then (if 0 ≤ (IntKind.u64.wrap (a1)) then (some (wrap64 ((wrap64 (t183)) - (shl .i64 1 (IntKind.u64.wrap (a1)))), 0, t185, t186)) else (none)) else (some (wrap64 (t183), 0, t185, t186))) = some (r1, r2, r3, r4) := by first | (rw [hji9] at H; exact H) | (simp only [hji9] at H ⊢; exact H)
          (try rw [hji9] at A4)
          have hji9_ : (t183 / 2 ^ min (ji7).toNat 64) = ji9 := hji9
          have hji9z : (ji7) ≤ 64 → (t183 / 2 ^ (ji7).toNat) = ji9 := shr_small hji9
          by_cases c10 : (ji9) = 1
          · rw [if_pos c10] at H
            have c10b0 : ((ji9) == 1) = true := beq_iff_eq.mpr c10
            have c10b1 : ((ji9) != 1) = false := bne_eq_false_iff_eq.mpr c10
            clear c10
            obtain ⟨ji11, hji11⟩ : ∃ j_ : Int, (IntKind.u64.wrap (a1)) = j_ := ⟨_, rfl⟩
            replace H : (if 0 ≤ (ji11) then (some (wrap64 ((wrap64 (t183)) - (shl .i64 1 (ji11))), 0, t185, t186)) else (none)) = some (r1, r2, r3, r4) := by first | (rw [hji11] at H; exact H) | (simp only [hji11] at H ⊢; exact H)
            (try rw [hji11] at A4)
            by_cases c12 : 0 ≤ (ji11)
            · rw [if_pos c12] at H
              have c12b0 := eq_true c12
              have c12b1 : decide (0 ≤ (ji11)) = true := decide_eq_true c12
              clear c12
              obtain ⟨ji13, hji13⟩ : ∃ j_ : Int, (shl .i64 1 (ji11)) = j_ := ⟨_, rfl⟩
              replace H : (some (wrap64 ((wrap64 (t183)) - (ji13)), 0, t185, t186)) = some (r1, r2, r3, r4) := by first | (rw [hji13] at H; exact H) | (simp only [hji13] at H ⊢; exact H)
              (try rw [hji13] at A4)
              have hji13_ : (IntKind.i64.wrap (1 * 2 ^ min (ji11).toNat 64)) = ji13 := hji13
              have hji13z : (ji11) ≤ 64 → (IntKind.i64.wrap (1 * 2 ^ (ji11).toNat)) = ji13 := shl_small hji13
              have hji13u : (IntKind.i64.wrap (2 ^ min (ji11).toNat 64)) = ji13 := by have h_ := hji13_; rw [Int.one_mul] at h_; exact h_
              have hji13v : (ji11) ≤ 64 → (IntKind.i64.wrap (2 ^ (ji11).toNat)) = ji13 := fun hle_ => by have h_ := hji13z hle_; rw [Int.one_mul] at h_; exact h_
              have hji13y : (wrap64 (1 * 2 ^ min (ji11).toNat 64)) = ji13 := (i64_w _).symm.trans hji13_
              have hji13x : (ji11) ≤ 64 → (wrap64 (1 * 2 ^ (ji11).toNat)) = ji13 := fun h_ => (i64_w _).symm.trans (hji13z h_)
              simp only [Option.some.injEq, Prod.mk.injEq] at H
              obtain ⟨rfl, rfl, rfl, rfl⟩ := H
              go_enter Try.func45, Try.ntmps45
              go_wp2_with (first | ((with_reducible refine gate_callee (f := 43) rfl ?_); refine goesL_ (some 13) rfl rfl Try.func43 (by kernel_rfl) rfl #[.pointer (some ⟨g, 0, none⟩), .int .i64 a1] rfl (by (try simp only [List.map_toArray, List.map_cons, List.map_nil]); first | done | rfl | (simp only [List.length_drop, List.length_take]; rfl)) ?_; (with_reducible refine (lacquerref01_R_Get.calls k g s0_0 s0_1 a1 t183 t184 t185 t186 w0 _ ?side1 ?side2 A4.out).mono ?_); (case side1 => repeat (first | (with_reducible first | exact HI0.out | apply IsS49.alloc | apply IsS49.drewN | apply IsS49.drew | apply IsS49.set_0 | apply IsS49.set_1) | exact HI0.out)); (case side2 => repeat (first | (with_reducible first | exact HB.out | apply below_alloc | apply pw_below_drewN | apply below_drew1 | refine below_set ?_ (IsS49.ge HI0.out)) | exact HB.out)); rintro e w14 ⟨rfl, hi, hb, hk⟩; refine ⟨_, rfl, ?_⟩; have n0_ := Aside0.mk (KeepBut.trans (by repeat (first | (with_reducible first | exact HK.out | apply KeepBut.set_ | apply keep_drewN | apply keep_drew | apply keep_alloc) | exact HK.out)) hk (.inl rfl)); have n1_ := Aside0.mk (hb); have n2_ := Aside0.mk (hi); clear HK; clear HB; clear HI0; have HK := n0_; have HB := n1_; have HI0 := n2_; clear n0_ n1_ n2_; (try clear hb); (try clear hb2); (try clear hk); (try clear hi)))
              go_ret2
              exact ⟨by first | rfl | (simp [errW_none, errW_some] <;> rfl) | (simp only [← hji7, ← hji9, ← hji11, ← hji13]; first | rfl | (simp [errW_none, errW_some] <;> rfl)) | (simp [*, errW_none, errW_some] <;> rfl), by repeat (first | (with_reducible first | exact HI0.out | apply IsS49.alloc | apply IsS49.drewN | apply IsS49.drew | apply IsS49.set_0 | apply IsS49.set_1) | exact HI0.out), by repeat (first | (with_reducible first | exact HB.out | apply below_alloc | apply pw_below_drewN | apply below_drew1 | refine below_set ?_ (IsS49.ge HI0.out)) | exact HB.out), by repeat (first | (with_reducible first | exact HK.out | apply KeepBut.set_ | apply keep_drewN | apply keep_drew | apply keep_alloc) | exact HK.out)⟩
            · rw [if_neg c12] at H
              exact absurd H (by simp)
          · rw [if_neg c10] at H
            have c10b0 : ((ji9) == 1) = false := beq_eq_false_iff_ne.mpr c10
            have c10b1 : ((ji9) != 1) = true := bne_iff_ne.mpr c10
            simp only [Option.some.injEq, Prod.mk.injEq] at H
            obtain ⟨rfl, rfl, rfl, rfl⟩ := H
            go_enter Try.func45, Try.ntmps45
            go_wp2_with (first | ((with_reducible refine gate_callee (f := 43) rfl ?_); refine goesL_ (some 13) rfl rfl Try.func43 (by kernel_rfl) rfl #[.pointer (some ⟨g, 0, none⟩), .int .i64 a1] rfl (by (try simp only [List.map_toArray, List.map_cons, List.map_nil]); first | done | rfl | (simp only [List.length_drop, List.length_take]; rfl)) ?_; (with_reducible refine (lacquerref01_R_Get.calls k g s0_0 s0_1 a1 t183 t184 t185 t186 w0 _ ?side1 ?side2 A4.out).mono ?_); (case side1 => repeat (first | (with_reducible first | exact HI0.out | apply IsS49.alloc | apply IsS49.drewN | apply IsS49.drew | apply IsS49.set_0 | apply IsS49.set_1) | exact HI0.out)); (case side2 => repeat (first | (with_reducible first | exact HB.out | apply below_alloc | apply pw_below_drewN | apply below_drew1 | refine below_set ?_ (IsS49.ge HI0.out)) | exact HB.out)); rintro e w15 ⟨rfl, hi, hb, hk⟩; refine ⟨_, rfl, ?_⟩; have n0_ := Aside0.mk (KeepBut.trans (by repeat (first | (with_reducible first | exact HK.out | apply KeepBut.set_ | apply keep_drewN | apply keep_drew | apply keep_alloc) | exact HK.out)) hk (.inl rfl)); have n1_ := Aside0.mk (hb); have n2_ := Aside0.mk (hi); clear HK; clear HB; clear HI0; have HK := n0_; have HB := n1_; have HI0 := n2_; clear n0_ n1_ n2_; (try clear hb); (try clear hb2); (try clear hk); (try clear hi)))
            go_ret2
            exact ⟨by first | rfl | (simp [errW_none, errW_some] <;> rfl) | (simp only [← hji7, ← hji9]; first | rfl | (simp [errW_none, errW_some] <;> rfl)) | (simp [*, errW_none, errW_some] <;> rfl), by repeat (first | (with_reducible first | exact HI0.out | apply IsS49.alloc | apply IsS49.drewN | apply IsS49.drew | apply IsS49.set_0 | apply IsS49.set_1) | exact HI0.out), by repeat (first | (with_reducible first | exact HB.out | apply below_alloc | apply pw_below_drewN | apply below_drew1 | refine below_set ?_ (IsS49.ge HI0.out)) | exact HB.out), by repeat (first | (with_reducible first | exact HK.out | apply KeepBut.set_ | apply keep_drewN | apply keep_drew | apply keep_alloc) | exact HK.out)⟩
        · rw [if_neg c8] at H
          exact absurd H (by simp)
      · rw [if_neg c6] at H
        have c6b0 : decide (a1 < 64) = false := decide_eq_false c6
        clear c6
        simp only [Option.some.injEq, Prod.mk.injEq] at H
        obtain ⟨rfl, rfl, rfl, rfl⟩ := H
        go_enter Try.func45, Try.ntmps45
        go_wp2_with (first | ((with_reducible refine gate_callee (f := 43) rfl ?_); refine goesL_ (some 13) rfl rfl Try.func43 (by kernel_rfl) rfl #[.pointer (some ⟨g, 0, none⟩), .int .i64 a1] rfl (by (try simp only [List.map_toArray, List.map_cons, List.map_nil]); first | done | rfl | (simp only [List.length_drop, List.length_take]; rfl)) ?_; (with_reducible refine (lacquerref01_R_Get.calls k g s0_0 s0_1 a1 t183 t184 t185 t186 w0 _ ?side1 ?side2 A4.out).mono ?_); (case side1 => repeat (first | (with_reducible first | exact HI0.out | apply IsS49.alloc | apply IsS49.drewN | apply IsS49.drew | apply IsS49.set_0 | apply IsS49.set_1) | exact HI0.out)); (case side2 => repeat (first | (with_reducible first | exact HB.out | apply below_alloc | apply pw_below_drewN | apply below_drew1 | refine below_set ?_ (IsS49.ge HI0.out)) | exact HB.out)); rintro e w16 ⟨rfl, hi, hb, hk⟩; refine ⟨_, rfl, ?_⟩; have n0_ := Aside0.mk (KeepBut.trans (by repeat (first | (with_reducible first | exact HK.out | apply KeepBut.set_ | apply keep_drewN | apply keep_drew | apply keep_alloc) | exact HK.out)) hk (.inl rfl)); have n1_ := Aside0.mk (hb); have n2_ := Aside0.mk (hi); clear HK; clear HB; clear HI0; have HK := n0_; have HB := n1_; have HI0 := n2_; clear n0_ n1_ n2_; (try clear hb); (try clear hb2); (try clear hk); (try clear hi)))
        go_ret2
        exact ⟨by first | rfl | (simp [errW_none, errW_some] <;> rfl) | (simp [*, errW_none, errW_some] <;> rfl), by repeat (first | (with_reducible first | exact HI0.out | apply IsS49.alloc | apply IsS49.drewN | apply IsS49.drew | apply IsS49.set_0 | apply IsS49.set_1) | exact HI0.out), by repeat (first | (with_reducible first | exact HB.out | apply below_alloc | apply pw_below_drewN | apply below_drew1 | refine below_set ?_ (IsS49.ge HI0.out)) | exact HB.out), by repeat (first | (with_reducible first | exact HK.out | apply KeepBut.set_ | apply keep_drewN | apply keep_drew | apply keep_alloc) | exact HK.out)⟩
    · rw [if_neg c5] at H
      have c5b0 : (t184 == 0) = false := beq_eq_false_iff_ne.mpr c5
      have c5b1 : (t184 != 0) = true := bne_iff_ne.mpr c5
      simp only [Option.some.injEq, Prod.mk.injEq] at H
      obtain ⟨rfl, rfl, rfl, rfl⟩ := H
      go_enter Try.func45, Try.ntmps45
      go_wp2_with (first | ((with_reducible refine gate_callee (f := 43) rfl ?_); refine goesL_ (some 13) rfl rfl Try.func43 (by kernel_rfl) rfl #[.pointer (some ⟨g, 0, none⟩), .int .i64 a1] rfl (by (try simp only [List.map_toArray, List.map_cons, List.map_nil]); first | done | rfl | (simp only [List.length_drop, List.length_take]; rfl)) ?_; (with_reducible refine (lacquerref01_R_Get.calls k g s0_0 s0_1 a1 t183 t184 t185 t186 w0 _ ?side1 ?side2 A4.out).mono ?_); (case side1 => repeat (first | (with_reducible first | exact HI0.out | apply IsS49.alloc | apply IsS49.drewN | apply IsS49.drew | apply IsS49.set_0 | apply IsS49.set_1) | exact HI0.out)); (case side2 => repeat (first | (with_reducible first | exact HB.out | apply below_alloc | apply pw_below_drewN | apply below_drew1 | refine below_set ?_ (IsS49.ge HI0.out)) | exact HB.out)); rintro e w17 ⟨rfl, hi, hb, hk⟩; refine ⟨_, rfl, ?_⟩; have n0_ := Aside0.mk (KeepBut.trans (by repeat (first | (with_reducible first | exact HK.out | apply KeepBut.set_ | apply keep_drewN | apply keep_drew | apply keep_alloc) | exact HK.out)) hk (.inl rfl)); have n1_ := Aside0.mk (hb); have n2_ := Aside0.mk (hi); clear HK; clear HB; clear HI0; have HK := n0_; have HB := n1_; have HI0 := n2_; clear n0_ n1_ n2_; (try clear hb); (try clear hb2); (try clear hk); (try clear hi)))
      go_ret2
      exact ⟨by first | rfl | (simp [errW_none, errW_some] <;> rfl) | (simp [*, errW_none, errW_some] <;> rfl), by repeat (first | (with_reducible first | exact HI0.out | apply IsS49.alloc | apply IsS49.drewN | apply IsS49.drew | apply IsS49.set_0 | apply IsS49.set_1) | exact HI0.out), by repeat (first | (with_reducible first | exact HB.out | apply below_alloc | apply pw_below_drewN | apply below_drew1 | refine below_set ?_ (IsS49.ge HI0.out)) | exact HB.out), by repeat (first | (with_reducible first | exact HK.out | apply KeepBut.set_ | apply keep_drewN | apply keep_drew | apply keep_alloc) | exact HK.out)⟩

-- NOT PRINTED: function 22 (lacquerref08_Decode)

-- NOT PRINTED: function 4 (lacquerlaw08_RiceDecodes)

-- NOT PRINTED: function 5 (lacquerlaw08_RiceBack)

/-! ### lacquerref08_Cost: function 29 -/

-- NOT PRINTED: function 27 (lacquerref08_Best)

-- NOT PRINTED: function 6 (lacquerlaw08_RiceBest)

-- NOT PRINTED: function 7 (lacquerlaw08_RiceLeast)

end Go.Proofs.Ytfhekkoibmlmpaa.Q

/- Contracts of layer 1, proved by hand: fold, fits; a writer's Signed, Unary, Rice, Align. -/
namespace Go.Proofs.Ytfhekkoibmlmpaa.Hand
open Go.RowKit Go.Proofs.Ytfhekkoibmlmpaa.Q Go.Proofs.YtfhekkoibmlmpaaW.PrintWords Go.Proofs.YtfhekkoibmlmpaaW.PrintLast Go.Proofs.YtfhekkoibmlmpaaW.PrintMore
set_option linter.unusedVariables false
set_option linter.unusedSimpArgs false

/-- A number of either sign as one from 0 on. -/
def foldN (n : Int) : Nat := if 0 ≤ n then (2 * n).toNat else (-2 * n - 1).toNat
theorem foldN_lt (n : Int) (h0 : -9223372036854775808 ≤ n) (h1 : n ≤ 9223372036854775807) : foldN n < 18446744073709551616 := by
  unfold foldN
  split <;> omega
theorem bits_xor_u64 (x y : Int) : Go.bits .xor .u64 x y = IntKind.u64.wrap ((BitVec.ofInt 64 x ^^^ BitVec.ofInt 64 y).toNat : Int) := rfl
theorem fold_bits (n : Int) (h0 : -9223372036854775808 ≤ n) (h1 : n ≤ 9223372036854775807) : Go.bits .xor .u64 (IntKind.u64.wrap ((IntKind.u64.wrap n) * 2)) (IntKind.u64.wrap (n / 9223372036854775808)) = (foldN n : Int) := by
  rw [bits_xor_u64]
  by_cases h : 0 ≤ n
  · have e1 : n / 9223372036854775808 = 0 := by omega
    have e2 : IntKind.u64.wrap (IntKind.u64.wrap n * 2) = ((foldN n : Nat) : Int) := by
      unfold foldN
      rw [if_pos h, u64_wrap, u64_wrap]
      omega
    have hlt := foldN_lt n h0 h1
    rw [e1, e2, show IntKind.u64.wrap 0 = 0 from rfl, show BitVec.ofInt 64 0 = 0#64 from rfl, BitVec.xor_zero, BitVec.toNat_ofInt, u64_wrap]
    omega
  · have e1 : n / 9223372036854775808 = -1 := by omega
    have e2 : IntKind.u64.wrap (IntKind.u64.wrap n * 2) = 2 * n + 18446744073709551616 := by
      rw [u64_wrap, u64_wrap]
      omega
    have hlt := foldN_lt n h0 h1
    rw [e1, e2, show BitVec.ofInt 64 (IntKind.u64.wrap (-1)) = BitVec.allOnes 64 by decide, BitVec.xor_allOnes, BitVec.toNat_not, BitVec.toNat_ofInt, u64_wrap]
    unfold foldN
    rw [if_neg h]
    omega
theorem fold_any (n : Int) (h0 : -9223372036854775808 ≤ n) (h1 : n ≤ 9223372036854775807) (w : World) : Calls Try.prog 49 #[.int .i64 n] w fun e w' => e = .returned (.int .u64 (foldN n)) ∧ Drawn0 w w' := by
  refine bits_fold.calls n _ w ?_
  unfold bits_fold.f
  rw [fold_bits n h0 h1]
instance (n k : Int) : Decidable (fitsP n k) := by unfold fitsP; infer_instance
theorem fits_any (n k : Int) (h0 : -9223372036854775808 ≤ n) (h1 : n ≤ 9223372036854775807) (w : World) : Calls Try.prog 51 #[.int .i64 n, .int .i64 k] w fun e w' => e = .returned (.bool (decide (fitsP n k))) ∧ Drawn0 w w' := by
  refine bits_fits.calls n k _ w ?_
  unfold bits_fits.f
  by_cases a : k ≥ 1
  · by_cases b : k ≤ 64
    · rw [if_pos a, if_pos b, wrap_id (k - 1) (by omega) (by omega), if_pos (by omega)]
      congr 1
      have hs : shr .i64 n (k - 1) = n / 2 ^ (k - 1).toNat := by
        unfold shr
        rw [Nat.min_eq_left (by simp [IntKind.bits]; omega)]
      rw [hs, fits_shift n (k - 1).toNat h0 (by omega)]
      by_cases c : -(2 ^ (k - 1).toNat) ≤ n ∧ n < 2 ^ (k - 1).toNat
      · rw [decide_eq_true c, decide_eq_true (show fitsP n k from ⟨a, b, c.1, c.2⟩)]
      · rw [decide_eq_false c, decide_eq_false (show ¬ fitsP n k from fun q => c ⟨q.2.2.1, q.2.2.2⟩)]
    · rw [if_pos a, if_neg b, decide_eq_false (show ¬ fitsP n k from fun q => b q.2.1)]
  · rw [if_neg a, decide_eq_false (show ¬ fitsP n k from fun q => a q.1)]
/-- The number in 64 bits. -/
def wordN (n : Int) : Nat := (n % 18446744073709551616).toNat
theorem wordN_lt (n : Int) : wordN n < 18446744073709551616 := by unfold wordN; omega
theorem wordN_eq (n : Int) : IntKind.u64.wrap n = (wordN n : Int) := by rw [u64_wrap]; unfold wordN; omega
set_option maxHeartbeats 4000000 in
set_option maxRecDepth 100000 in
theorem Signed_no (n k : Int) (h0 : -9223372036854775808 ≤ n) (h1 : n ≤ 9223372036854775807) (hf : ¬ fitsP n k) (g : Nat) (w : World) :
    Calls Try.prog 34 #[.pointer (some ⟨g, 0, none⟩), .int .i64 n, .int .i64 k] w fun e w' => e = .returned (.int .i64 11) ∧ Drawn0 w w' := by
  have hup := Try.underlying28
  have hc := fits_any n k h0 h1
  rw [decide_eq_false hf] at hc
  have HC := Aside0.mk hc
  clear hc hf
  go_enter Try.func34, Try.ntmps34
  go_wp2_with fail
  refine (HC.out _).mono ?_
  rintro e w1 ⟨rfl, hd⟩
  have HD := Aside0.mk hd
  clear hd
  go_wp2
  go_ret
  exact ⟨rfl, HD.out⟩
set_option maxHeartbeats 4000000 in
set_option maxRecDepth 100000 in
theorem Signed_yes (n : Int) (K : Nat) (h0 : -9223372036854775808 ≤ n) (h1 : n ≤ 9223372036854775807) (hf : fitsP n K) (bs : List Bool) (B g : Nat) (v : Value) (w : World) (h : WAt w B g v bs) (hl : bs.length + 64 < 1125899906842624) :
    Calls Try.prog 34 #[.pointer (some ⟨g, 0, none⟩), .int .i64 n, .int .i64 K] w fun e w' => e = .returned (.int .i64 0) ∧ ∃ v', WAt w' B g v' (bs ++ nbits (wordN n) K) ∧ Moved B g w v w' v' := by
  have hup := Try.underlying28
  have hc := fits_any n K h0 h1
  rw [decide_eq_true hf] at hc
  have HC := Aside0.mk hc
  have hw := wordN_eq n
  have H := Aside0.mk h
  have hK : K ≤ 64 := by have := hf.2.1; omega
  clear hc hf h
  go_enter Try.func34, Try.ntmps34
  go_wp2_with fail
  refine (HC.out _).mono ?_
  rintro e w1 ⟨rfl, ⟨m, rfl⟩⟩
  have H1 := Aside0.mk (H.out.below (pw_below_drewN (Below.refl _ _) m))
  have HM1 := Aside0.mk ((Moved.refl B g w v).drewN m)
  generalize w.drewN m = w1 at H1 HM1 ⊢
  go_wp2_with fail
  refine (lay_any (wordN n) K bs (wordN_lt n) hK B g v w1 H1.out hl).mono ?_
  rintro e w2 ⟨rfl, v2, hE, hM⟩
  have HE := Aside0.mk hE
  have HM := Aside0.mk (HM1.out.trans hM)
  clear hE hM
  go_wp2
  go_ret
  exact ⟨rfl, v2, HE.out, HM.out⟩
/-- How many noughts bring bits to whole bytes. -/
def padN (n : Nat) : Nat := (8 - n % 8) % 8
end Go.Proofs.Ytfhekkoibmlmpaa.Hand

/- Contracts of layer 1, proved by hand: a writer's Rice. -/
namespace Go.Proofs.Ytfhekkoibmlmpaa.Hand
open Go.RowKit Go.Proofs.Ytfhekkoibmlmpaa.Q Go.Proofs.YtfhekkoibmlmpaaW.PrintWords Go.Proofs.YtfhekkoibmlmpaaW.PrintLast Go.Proofs.YtfhekkoibmlmpaaW.PrintMore
set_option linter.unusedVariables false
set_option linter.unusedSimpArgs false

def riceP (n k : Int) : Prop := 0 ≤ k ∧ k ≤ 30 ∧ foldN n / 2 ^ k.toNat ≤ 16777216
instance (n k : Int) : Decidable (riceP n k) := by unfold riceP; infer_instance
/-- A Rice code. -/
def riceB (n : Int) (K : Nat) : List Bool := List.replicate (foldN n / 2 ^ K) false ++ true :: nbits (foldN n) K
set_option maxHeartbeats 4000000 in
set_option maxRecDepth 100000 in
theorem Rice_yes (n : Int) (K : Nat) (h0 : -9223372036854775808 ≤ n) (h1 : n ≤ 9223372036854775807) (h : riceP n K) (bs : List Bool) (B g : Nat) (v : Value) (w : World) (hE : WAt w B g v bs) (hl : bs.length + 16777400 < 1125899906842624) :
    Calls Try.prog 33 #[.pointer (some ⟨g, 0, none⟩), .int .i64 n, .int .i64 K] w fun e w' => e = .returned (.int .i64 0) ∧ ∃ v', WAt w' B g v' (bs ++ riceB n K) ∧ Moved B g w v w' v' := by
  have hup := Try.underlying28
  have hq : foldN n / 2 ^ K ≤ 16777216 := by simpa using h.2.2
  have hd : (foldN n : Int) / 2 ^ K = ((foldN n / 2 ^ K : Nat) : Int) := by simp
  have HF := Aside0.mk (fold_any n h0 h1)
  have hlt := foldN_lt n h0 h1
  have k2 : (0 : Int) ≤ (K : Int) := by omega
  have k3 : (K : Int) ≤ 30 := h.2.1
  have k4 : (K : Int) < 64 := by omega
  have HE := Aside0.mk hE
  have HRB : Aside0 (riceB n K = List.replicate (foldN n / 2 ^ K) false ++ true :: nbits (foldN n) K) := ⟨rfl⟩
  obtain ⟨u, hu⟩ : ∃ u, foldN n = u := ⟨_, rfl⟩
  rw [hu] at hq hd HF hlt HRB
  obtain ⟨q, hqq⟩ : ∃ q, u / 2 ^ K = q := ⟨_, rfl⟩
  rw [hqq] at hq hd HRB
  have hq' : (q : Int) ≤ 16777216 := by omega
  clear h hu hqq hE
  go_enter Try.func33, Try.ntmps33
  go_wp2_with fail
  refine (HF.out _).mono ?_
  rintro e w1 ⟨rfl, ⟨m1, rfl⟩⟩
  go_wp2_with fail
  refine (HF.out _).mono ?_
  rintro e w1 ⟨rfl, ⟨m2, rfl⟩⟩
  have HE1 : Aside0 (WAt ((w.drewN m1).drewN m2) B g v bs) := ⟨(HE.out.below (pw_below_drewN (Below.refl _ _) m1)).below (pw_below_drewN (Below.refl _ _) m2)⟩
  have HM1 : Aside0 (Moved B g w v ((w.drewN m1).drewN m2) v) := ⟨((Moved.refl B g w v).drewN m1).drewN m2⟩
  generalize (w.drewN m1).drewN m2 = wy at HE1 HM1 ⊢
  go_wp2_with fail
  refine (unary_any q bs (by omega) B g v wy HE1.out (by omega)).mono ?_
  rintro e w3 ⟨rfl, v3, hE, hM⟩
  have HE3 := Aside0.mk hE
  have HM3 := Aside0.mk (HM1.out.trans hM)
  clear hE hM
  go_wp2_with fail
  refine (lay_any u K _ hlt (by omega) B g v3 w3 HE3.out (by rw [List.length_append, noughts_length]; simp; omega)).mono ?_
  rintro e w4 ⟨rfl, v4, hE, hM⟩
  have HE4 := Aside0.mk hE
  have HM4 := Aside0.mk (HM3.out.trans hM)
  clear hE hM
  go_wp2
  go_ret
  refine ⟨rfl, v4, ?_, HM4.out⟩
  rw [HRB.out]
  have := HE4.out
  unfold noughts at this
  simpa using this
end Go.Proofs.Ytfhekkoibmlmpaa.Hand

/- Plain words of layer 1: the bits of a text, and what a reader gives. -/
namespace Go.Proofs.Ytfhekkoibmlmpaa.Hand
open Go.RowKit Go.Proofs.YtfhekkoibmlmpaaW.PrintWords
set_option linter.unusedVariables false
set_option linter.unusedSimpArgs false

/-- Bit q of a text; k bits from p on. -/
def tb (s : ByteArray) (q : Nat) : Bool := bitAt (bytesOf s) q
def bitsAt (s : ByteArray) (p k : Nat) : List Bool := (List.range k).map fun i => tb s (p + i)
theorem bitsAt_length (s : ByteArray) (p k : Nat) : (bitsAt s p k).length = k := by simp [bitsAt]
theorem bitsAt_snoc (s : ByteArray) (p k : Nat) : bitsAt s p (k + 1) = bitsAt s p k ++ [tb s (p + k)] := by simp [bitsAt, List.range_succ]
/-- A number of k bits. -/
def numAt (s : ByteArray) (p k : Nat) : Nat := natOf (bitsAt s p k)
theorem numAt_lt (s : ByteArray) (p k : Nat) : numAt s p k < 2 ^ k := natOf_lt k _ (bitsAt_length s p k)
theorem numAt_succ (s : ByteArray) (p k : Nat) : numAt s p (k + 1) = 2 * numAt s p k + (tb s (p + k)).toNat := by
  unfold numAt
  rw [bitsAt_snoc, natOf_snoc]
theorem bytes_get (s : ByteArray) (j : Nat) (h : j < s.size) : (bytesOf s).getD j 0 = ((s[j]'h).toNat : Int) := by
  unfold bytesOf
  rw [List.getD_eq_getElem?_getD, List.getElem?_map]
  have : s.data.toList[j]? = some (s[j]'h) := by
    rw [Array.getElem?_toList]
    exact Array.getElem?_eq_getElem h
  rw [this]
  rfl
theorem low_bit (x : Nat) (hx : x < 18446744073709551616) : Go.bits .and .u64 (x : Int) 1 = ((x.testBit 0).toNat : Int) := by
  have e : Go.bits .and .u64 (x : Int) 1 = IntKind.u64.wrap ((BitVec.ofInt 64 (x : Int) &&& BitVec.ofInt 64 1).toNat : Int) := rfl
  have e1 : (BitVec.ofInt 64 (x : Int)).toNat = x := by rw [BitVec.toNat_ofInt]; omega
  have e2 : (BitVec.ofInt 64 1).toNat = 1 := by decide
  rw [e, BitVec.toNat_and, e1, e2, Nat.and_one_is_mod, Nat.testBit_zero]
  have hm : IntKind.u64.wrap ((x % 2 : Nat) : Int) = ((x % 2 : Nat) : Int) := by
    simp only [IntKind.wrap, IntKind.bits, IntKind.signed]
    simp
    omega
  rw [hm]
  rcases Nat.mod_two_eq_zero_or_one x with h | h <;> simp [h]
theorem or_bit (n : Nat) (b : Bool) (h : 2 * n + 1 < 18446744073709551616) : Go.bits .or .u64 ((n : Int) * 2) (b.toNat : Int) = ((2 * n + b.toNat : Nat) : Int) := by
  have e : Go.bits .or .u64 ((n : Int) * 2) (b.toNat : Int) = IntKind.u64.wrap ((BitVec.ofInt 64 ((n : Int) * 2) ||| BitVec.ofInt 64 (b.toNat : Int)).toNat : Int) := rfl
  have hb : b.toNat < 2 := by cases b <;> decide
  have e1 : (BitVec.ofInt 64 ((n : Int) * 2)).toNat = n <<< 1 := by rw [BitVec.toNat_ofInt, Nat.shiftLeft_eq]; omega
  have e2 : (BitVec.ofInt 64 (b.toNat : Int)).toNat = b.toNat := by rw [BitVec.toNat_ofInt]; omega
  rw [e, BitVec.toNat_or, e1, e2, ← Nat.shiftLeft_add_eq_or_of_lt (by simpa using hb), Nat.shiftLeft_eq]
  have hm : IntKind.u64.wrap ((n * 2 ^ 1 + b.toNat : Nat) : Int) = ((n * 2 ^ 1 + b.toNat : Nat) : Int) := by
    simp only [IntKind.wrap, IntKind.bits, IntKind.signed]
    simp
    omega
  rw [hm]
  congr 1
  omega
theorem peek_bit (s : ByteArray) (q j r : Nat) (hj : j < s.size) (hq : q / 8 = j) (hr : q % 8 = r) : Go.bits .and .u64 (((s[j]'hj).toNat : Int) / 2 ^ (7 - r)) 1 = ((tb s q).toNat : Int) := by
  have hlt : (s[j]'hj).toNat < 256 := (s[j]'hj).toNat_lt
  have e : ((s[j]'hj).toNat : Int) / 2 ^ (7 - r) = (((s[j]'hj).toNat / 2 ^ (7 - r) : Nat) : Int) := by simp
  have hle : (s[j]'hj).toNat / 2 ^ (7 - r) ≤ (s[j]'hj).toNat := Nat.div_le_self _ _
  rw [e, low_bit _ (by omega)]
  unfold tb bitAt
  rw [hq, hr, bytes_get s j hj, Int.toNat_natCast, Nat.testBit_zero, ← Nat.testBit_eq_decide_div_mod_eq]
/-- What Get gives: the number, the error, the place behind it. -/
def getR (s : ByteArray) (p : Nat) (k : Int) : Nat × Int × Nat :=
  if k < 0 ∨ 64 < k then (0, 11, p) else if ((8 * s.size - p : Nat) : Int) < k then (0, 10, p) else (numAt s p k.toNat, 0, p + k.toNat)
theorem getR_at (s : ByteArray) (p : Nat) (k : Int) (hp : p ≤ 8 * s.size) : (getR s p k).2.2 ≤ 8 * s.size := by
  unfold getR
  split
  · exact hp
  · split
    · exact hp
    · show p + k.toNat ≤ _; omega
/-- How many noughts lie from p on (at most m). -/
def zeros (s : ByteArray) (p : Nat) : Nat → Nat
  | 0 => 0
  | m + 1 => if tb s p then 0 else zeros s (p + 1) m + 1
theorem zeros_le (s : ByteArray) : ∀ (m p : Nat), zeros s p m ≤ m
  | 0, p => Nat.le_refl _
  | m + 1, p => by
    rw [zeros]
    split
    · omega
    · have := zeros_le s m (p + 1); omega
theorem zeros_bit (s : ByteArray) : ∀ (m p i : Nat), i < zeros s p m → tb s (p + i) = false
  | 0, p, i, h => by simp [zeros] at h
  | m + 1, p, i, h => by
    rw [zeros] at h
    by_cases hb : tb s p = true
    · rw [if_pos hb] at h; omega
    · rw [if_neg hb] at h
      cases i with
      | zero => simpa using hb
      | succ i =>
        have := zeros_bit s m (p + 1) i (by omega)
        rw [show p + (i + 1) = p + 1 + i by omega]
        exact this
theorem zeros_end (s : ByteArray) : ∀ (m p : Nat), zeros s p m < m → tb s (p + zeros s p m) = true
  | 0, p, h => by omega
  | m + 1, p, h => by
    rw [zeros] at h ⊢
    by_cases hb : tb s p = true
    · rw [if_pos hb]; exact hb
    · rw [if_neg hb] at h ⊢
      have := zeros_end s m (p + 1) (by omega)
      rw [show p + (zeros s (p + 1) m + 1) = p + 1 + zeros s (p + 1) m by omega]
      exact this
/-- What Unary gives. -/
def unaryR (s : ByteArray) (p : Nat) : Nat × Int × Nat :=
  if 16777216 < zeros s p (8 * s.size - p) then (0, 11, p) else if zeros s p (8 * s.size - p) = 8 * s.size - p then (0, 10, p) else (zeros s p (8 * s.size - p), 0, p + zeros s p (8 * s.size - p) + 1)
/-- A number in the sign's bits: as so many bits, signed. -/
def signOf (n : Nat) (k : Nat) : Int := if n < 2 ^ (k - 1) then (n : Int) else (n : Int) - 2 ^ k
end Go.Proofs.Ytfhekkoibmlmpaa.Hand

/- Contracts of layer 1, proved by hand: a reader's Of, At, Left, peek, Get. -/
namespace Go.Proofs.Ytfhekkoibmlmpaa.Hand
open Go.RowKit Go.Proofs.YtfhekkoibmlmpaaW.PrintWords Go.Proofs.YtfhekkoibmlmpaaW.PrintLast Go.Proofs.YtfhekkoibmlmpaaW.PrintMore
set_option linter.unusedVariables false
set_option linter.unusedSimpArgs false

/-- From w on to w' the block g has been turned, and nothing else. -/
structure Turned (B g : Nat) (w w' : World) : Prop where
  below : Below B w w'
  kept : Kept w w' (fun k => k = g)
theorem Turned.refl (B g : Nat) (w : World) : Turned B g w w := ⟨Below.refl _ _, Kept.refl _ _⟩
theorem Turned.trans {B g : Nat} {w w1 w2 : World} (h : Turned B g w w1) (k : Turned B g w1 w2) : Turned B g w w2 := ⟨h.below.trans k.below, h.kept.then_ k.kept (fun _ h => .inl h)⟩
theorem Turned.set {B g : Nat} {w w1 : World} (h : Turned B g w w1) (hB : B ≤ g) (j : Nat) (u : Value) : Turned B g w (w1.setCell ⟨g, j, none⟩ u) := ⟨h.below.setCell hB u, h.kept.setCell (p := ⟨g, j, none⟩) (.inl rfl) u⟩
theorem Turned.drew {B g : Nat} {w w1 : World} (h : Turned B g w w1) : Turned B g w w1.drew := ⟨below_drew h.below, h.kept.drew⟩
theorem Turned.drewN {B g : Nat} {w w1 : World} (h : Turned B g w w1) (m : Nat) : Turned B g w (w1.drewN m) := ⟨pw_below_drewN h.below m, h.kept.drewN m⟩
theorem Turned.drawn {B g : Nat} {w w1 w2 : World} (h : Turned B g w w1) (k : Drawn0 w1 w2) : Turned B g w w2 := by
  obtain ⟨m, rfl⟩ := k
  exact h.drewN m
theorem Turned.new {B g : Nat} {w w1 w2 : World} (h : Turned B g w w1) (k : Below w1.heap.size w1 w2) (hB : B ≤ w1.heap.size) : Turned B g w w2 :=
  ⟨h.below.trans (k.mono hB), h.kept.below k⟩
/-- A reader in block g: its place, its text. -/
def RAt (w : World) (g : Nat) (s : ByteArray) (p : Nat) : Prop := w.heap[g]? = some (.cells #[.int .i64 p, .string s] 75 (0, 0))
theorem RAt.below {w w' : World} {g p : Nat} {s : ByteArray} (h : RAt w g s p) (hb : Below w.heap.size w w') : RAt w' g s p := blk_below h hb
theorem RAt.drawn {w w' : World} {g p : Nat} {s : ByteArray} (h : RAt w g s p) (k : Drawn0 w w') : RAt w' g s p := by
  obtain ⟨m, rfl⟩ := k
  exact h.below (pw_below_drewN (Below.refl _ _) m)
theorem RAt.lt {w : World} {g p : Nat} {s : ByteArray} (h : RAt w g s p) : g < w.heap.size := blk_lt h
theorem RAt.place {w : World} {g p : Nat} {s : ByteArray} (h : RAt w g s p) : w.cell? ⟨g, 0, none⟩ = some (.int .i64 p) := blk_cell h 0
theorem RAt.text {w : World} {g p : Nat} {s : ByteArray} (h : RAt w g s p) : w.cell? ⟨g, 1, none⟩ = some (.string s) := blk_cell h 1
theorem RAt.to {w : World} {g p q : Nat} {s : ByteArray} (h : RAt w g s p) : RAt (w.setCell ⟨g, 0, none⟩ (.int .i64 q)) g s q := blk_put h 0 _ rfl
set_option maxHeartbeats 1000000 in
theorem Of_any (s : ByteArray) (w : World) : Calls Try.prog 20 #[.string s] w fun e w' => e = .returned (.pointer (some ⟨w.heap.size, 0, none⟩)) ∧ w' = w.alloc (.cells #[.int .i64 0, .string s] 75) := by
  go_enter Try.func20, Try.ntmps20
  go_wp2
  go_ret
  exact ⟨rfl, rfl⟩
set_option maxHeartbeats 1000000 in
theorem At_any (s : ByteArray) (p g : Nat) (w : World) (h : RAt w g s p) : Calls Try.prog 25 #[.pointer (some ⟨g, 0, none⟩)] w fun e w' => e = .returned (.int .i64 p) ∧ Drawn0 w w' := by
  have hup := Try.underlying45
  have c0 := h.place
  clear h
  go_enter Try.func25, Try.ntmps25
  go_wp2_with fail
  refine (at_any g _ _ c0).mono ?_
  rintro e w' ⟨rfl, rfl⟩
  go_wp2
  go_ret
  exact ⟨rfl, Drawn0.refl _⟩
set_option maxHeartbeats 2000000 in
theorem Left_any (s : ByteArray) (hs : s.size ≤ 281474976710656) (p g : Nat) (hp : p ≤ 8 * s.size) (w : World) (h : RAt w g s p) : Calls Try.prog 54 #[.pointer (some ⟨g, 0, none⟩)] w fun e w' => e = .returned (.int .i64 ((8 * s.size - p : Nat) : Int)) ∧ Drawn0 w w' := by
  have hup := Try.underlying45
  have c0 := h.place
  have c1 := h.text
  have e1 : IntKind.i64.wrap (8 * (s.size : Int)) = 8 * (s.size : Int) := by rw [IntKind.wrap_i64]; omega
  have e2 : IntKind.i64.wrap (8 * (s.size : Int) - (p : Int)) = ((8 * s.size - p : Nat) : Int) := by rw [IntKind.wrap_i64]; omega
  clear h
  go_enter Try.func54, Try.ntmps54
  go_wp2
  go_quiet (first | (go_at_call 38; exact Calls.quiet_of_same (at_still g _ _ (by exact c0))))
  go_wp2
  go_ret
  exact ⟨rfl, ⟨_, rfl⟩⟩
set_option maxHeartbeats 2000000 in
theorem peek_any (s : ByteArray) (p q g : Nat) (hq : q < 8 * s.size) (hs : s.size ≤ 281474976710656) (w : World) (h : RAt w g s p) : Calls Try.prog 55 #[.pointer (some ⟨g, 0, none⟩), .int .i64 q] w fun e w' => e = .returned (.int .u64 ((tb s q).toNat : Int)) ∧ Drawn0 w w' := by
  have hup := Try.underlying45
  have c1 := h.text
  obtain ⟨j, hj⟩ : ∃ j, q / 8 = j := ⟨_, rfl⟩
  obtain ⟨r, hr⟩ : ∃ r, q % 8 = r := ⟨_, rfl⟩
  have hjl : j < s.size := by omega
  have hb := peek_bit s q j r hjl hj hr
  generalize tb s q = one at hb ⊢
  have e4 : IntKind.u64.wrap (((s[j]'hjl).toNat : Int) / 2 ^ (7 - r)) = ((s[j]'hjl).toNat : Int) / 2 ^ (7 - r) := by
    have hlt : (s[j]'hjl).toNat < 256 := (s[j]'hjl).toNat_lt
    have e : ((s[j]'hjl).toNat : Int) / 2 ^ (7 - r) = (((s[j]'hjl).toNat / 2 ^ (7 - r) : Nat) : Int) := by simp
    have hle : (s[j]'hjl).toNat / 2 ^ (7 - r) ≤ (s[j]'hjl).toNat := Nat.div_le_self _ _
    rw [e]
    generalize (s[j]'hjl).toNat / 2 ^ (7 - r) = y at hle
    rw [u64_wrap]
    omega
  have e1 : (q : Int) / 8 = (j : Int) := by omega
  have e2 : (q : Int) % 8 = (r : Int) := by omega
  have e3 : (7 - (r : Int)).toNat = 7 - r := by omega
  have i0 : (0 : Int) ≤ (j : Int) := by omega
  have i1 : (j : Int) < (s.size : Int) := by omega
  have i2 : 0 ≤ 7 - (r : Int) := by omega
  have i3 : 7 - (r : Int) < 8 := by omega
  clear h hj hr
  go_enter Try.func55, Try.ntmps55
  go_wp2
  go_ret
  exact ⟨rfl, Drawn0.refl _⟩
end Go.Proofs.Ytfhekkoibmlmpaa.Hand

/- Contracts of layer 1, proved by hand: a reader's Get. -/
namespace Go.Proofs.Ytfhekkoibmlmpaa.Hand
open Go.RowKit Go.Proofs.YtfhekkoibmlmpaaW.PrintWords Go.Proofs.YtfhekkoibmlmpaaW.PrintLast Go.Proofs.YtfhekkoibmlmpaaW.PrintMore
set_option linter.unusedVariables false
set_option linter.unusedSimpArgs false

set_option maxHeartbeats 2000000 in
set_option maxRecDepth 100000 in
theorem Get_any (s : ByteArray) (hs : s.size ≤ 281474976710656) (p : Nat) (hp : p ≤ 8 * s.size) (k : Int) (B g : Nat) (hB : B ≤ g) (w : World) (h : RAt w g s p) :
    Calls Try.prog 41 #[.pointer (some ⟨g, 0, none⟩), .int .i64 k] w fun e w' => e = .returned (.tuple #[.int .u64 (getR s p k).1, .int .i64 (getR s p k).2.1]) ∧ RAt w' g s (getR s p k).2.2 ∧ Turned B g w w' := by
  have hup := Try.underlying45
  have HR := Aside0.mk h
  clear h
  by_cases h1 : k < 0
  · have he : getR s p k = (0, 11, p) := if_pos (.inl h1)
    rw [he]
    clear he
    go_enter Try.func41, Try.ntmps41
    go_wp2
    go_ret2
    exact ⟨rfl, HR.out, Turned.refl _ _ _⟩
  · by_cases h2 : 64 < k
    · have he : getR s p k = (0, 11, p) := if_pos (.inr h2)
      rw [he]
      clear he
      go_enter Try.func41, Try.ntmps41
      go_wp2
      go_ret2
      exact ⟨rfl, HR.out, Turned.refl _ _ _⟩
    · obtain ⟨K, rfl⟩ : ∃ K : Nat, k = (K : Int) := ⟨k.toNat, by omega⟩
      have HL := Aside0.mk (Left_any s hs p g hp w HR.out)
      obtain ⟨L, hL⟩ : ∃ L : Int, ((8 * s.size - p : Nat) : Int) = L := ⟨_, rfl⟩
      rw [hL] at HL
      by_cases h3 : L < (K : Int)
      · have he : getR s p K = (0, 10, p) := by unfold getR; rw [if_neg (by omega), if_pos (by rw [hL]; exact h3)]
        rw [he]
        clear he hL
        go_enter Try.func41, Try.ntmps41
        go_wp2_with fail
        refine HL.out.mono ?_
        rintro e w1 ⟨rfl, hd⟩
        have HD := Aside0.mk hd
        clear hd
        go_wp2
        go_ret2
        exact ⟨rfl, HR.out.drawn HD.out, (Turned.refl B g w).drawn HD.out⟩
      · have he : getR s p K = (numAt s p K, 0, p + K) := by unfold getR; rw [if_neg (by omega), if_neg (by rw [hL]; exact h3)]; rfl
        rw [he]
        have HSZ := Aside0.mk (show p + K ≤ 8 * s.size by omega)
        have hp1 : p ≤ 2251799813685248 := by omega
        have hK1 : K ≤ 64 := by omega
        have HLL := Aside0.mk hL
        clear he hL h1 h2
        go_enter Try.func41, Try.ntmps41
        go_wp2_with fail
        refine HL.out.mono ?_
        rintro e w1 ⟨rfl, hd⟩
        have HR1 := Aside0.mk (HR.out.drawn hd)
        have HT1 := Aside0.mk ((Turned.refl B g w).drawn hd)
        clear hd
        go_wp2
        go_loopg [6, 24] K (fun gk n i wr => ∃ d : Nat, d + gk = K ∧ i = .int .i64 d ∧ n = .int .u64 (numAt s p d) ∧ Aside0 (RAt wr g s p) ∧ Aside0 (Turned B g w wr))
        case atStart => exact ⟨0, by omega, rfl, rfl, HR1, HT1⟩
        case round =>
          obtain ⟨d, hdk, rfl, rfl, HR2, HT2⟩ := hrel
          have c0 := HR2.out.place
          cases gk with
          | zero =>
            obtain rfl : d = K := by omega
            have f0 := blk_frozen HR2.out 0
            go_wp2_with fail
            refine (on_any g p d wr c0 f0 (by omega) (by omega) (by omega) (by omega)).mono ?_
            rintro e w2 ⟨rfl, rfl⟩
            go_wp2
            go_ret2
            refine ⟨rfl, ?_, HT2.out.set hB 0 _⟩
            exact_mod_cast HR2.out.to (q := p + d)
          | succ gk =>
            have i1 : (d : Int) < (K : Int) := by omega
            have hlt : numAt s p d < 9223372036854775808 := Nat.lt_of_lt_of_le (numAt_lt s p d) (by
              have : d ≤ 63 := by omega
              exact Nat.pow_le_pow_right (by decide) this)
            have hor := or_bit (numAt s p d) (tb s (p + d)) (by omega)
            have hnx := numAt_succ s p d
            rw [← hnx] at hor
            have HPK := Aside0.mk (fun W hW => peek_any s p (p + d) g (by have := HSZ.out; omega) hs W hW)
            generalize tb s (p + d) = one at hor HPK hnx
            clear hnx
            obtain ⟨n2, hn2⟩ : ∃ n2, numAt s p (d + 1) = n2 := ⟨_, rfl⟩
            rw [hn2] at hor
            have HN2 := Aside0.mk hn2
            clear hn2
            generalize numAt s p d = n1 at hlt hor
            obtain ⟨q, hq⟩ : ∃ q, p + d = q := ⟨_, rfl⟩
            rw [hq] at HPK
            have eq1 : (p : Int) + (d : Int) = (q : Int) := by omega
            have hq2 : q ≤ 4503599627370496 := by omega
            clear hq
            go_wp2_with fail
            refine (at_any g _ _ c0).mono ?_
            rintro e w2 ⟨rfl, rfl⟩
            go_wp2_with fail
            refine (HPK.out _ HR2.out).mono ?_
            rintro e w3 ⟨rfl, hd⟩
            have HR3 := Aside0.mk (HR2.out.drawn hd)
            have HT3 := Aside0.mk (HT2.out.drawn hd)
            clear hd
            go_wp2
            go_roundg gk
            case measure => omega
            case rel => exact ⟨d + 1, by omega, by go_num, by rw [HN2.out], HR3, HT3⟩
end Go.Proofs.Ytfhekkoibmlmpaa.Hand

/- Contracts of layer 1, proved by hand: a reader's Unary. -/
namespace Go.Proofs.Ytfhekkoibmlmpaa.Hand
open Go.RowKit Go.Proofs.YtfhekkoibmlmpaaW.PrintWords Go.Proofs.YtfhekkoibmlmpaaW.PrintLast Go.Proofs.YtfhekkoibmlmpaaW.PrintMore
set_option linter.unusedVariables false
set_option linter.unusedSimpArgs false

set_option maxHeartbeats 2000000 in
set_option maxRecDepth 100000 in
theorem UnaryR_any (s : ByteArray) (hs : s.size ≤ 281474976710656) (p : Nat) (hp : p ≤ 8 * s.size) (B g : Nat) (hB : B ≤ g) (w : World) (h : RAt w g s p) :
    Calls Try.prog 64 #[.pointer (some ⟨g, 0, none⟩)] w fun e w' => e = .returned (.tuple #[.int .i64 (unaryR s p).1, .int .i64 (unaryR s p).2.1]) ∧ RAt w' g s (unaryR s p).2.2 ∧ Turned B g w w' := by
  have hup := Try.underlying45
  have HR := Aside0.mk h
  clear h
  have HL := Aside0.mk (Left_any s hs p g hp w HR.out)
  obtain ⟨m, hm⟩ : ∃ m : Nat, 8 * s.size - p = m := ⟨_, rfl⟩
  obtain ⟨Z, hZ⟩ : ∃ Z : Nat, zeros s p m = Z := ⟨_, rfl⟩
  have HU := Aside0.mk (show unaryR s p = if 16777216 < Z then (0, 11, p) else if Z = m then (0, 10, p) else (Z, 0, p + Z + 1) by unfold unaryR; rw [hm, hZ])
  have hZm : Z ≤ m := by rw [← hZ]; exact zeros_le s m p
  have HZ0 := Aside0.mk (fun i (h : i < Z) => zeros_bit s m p i (by rw [hZ]; exact h))
  have HZ1 := Aside0.mk (fun (h : Z < m) => by have := zeros_end s m p (by rw [hZ]; exact h); rw [hZ] at this; exact this)
  rw [hm] at HL
  have HPM := Aside0.mk (show p + m = 8 * s.size by omega)
  have hp1 : p ≤ 2251799813685248 := by omega
  have hm1 : m ≤ 2251799813685248 := by omega
  clear hm hZ
  go_enter Try.func64, Try.ntmps64
  go_wp2_with fail
  refine HL.out.mono ?_
  rintro e w1 ⟨rfl, hd⟩
  have HR1 := Aside0.mk (HR.out.drawn hd)
  have HT1 := Aside0.mk ((Turned.refl B g w).drawn hd)
  clear hd HL
  go_wp2
  go_loopg [4] m (fun k i wr => ∃ d : Nat, d + k = m ∧ d ≤ Z ∧ Aside0 (d ≤ 16777216) ∧ i = .int .i64 d ∧ Aside0 (RAt wr g s p) ∧ Aside0 (Turned B g w wr))
  case atStart => exact ⟨0, by omega, by omega, ⟨by omega⟩, rfl, HR1, HT1⟩
  case round =>
    obtain ⟨d, hdk, hdZ, HDL, rfl, HR2, HT2⟩ := hrel
    have hdl := HDL.out
    have c0 := HR2.out.place
    by_cases hlt : d < m
    · have i1 : (d : Int) < (m : Int) := by omega
      have HPK := Aside0.mk (fun W hW => peek_any s p (p + d) g (by have := HPM.out; omega) hs W hW)
      by_cases hz : d < Z
      · rw [HZ0.out d hz] at HPK
        obtain ⟨q, hq⟩ : ∃ q, p + d = q := ⟨_, rfl⟩
        rw [hq] at HPK
        have eq1 : (p : Int) + (d : Int) = (q : Int) := by omega
        have hq2 : q ≤ 4503599627370496 := by omega
        clear hq
        go_wp2_with fail
        refine (at_any g _ _ c0).mono ?_
        rintro e w2 ⟨rfl, rfl⟩
        go_wp2_with fail
        refine (HPK.out _ HR2.out).mono ?_
        rintro e w3 ⟨rfl, hd⟩
        have HR3 := Aside0.mk (HR2.out.drawn hd)
        have HT3 := Aside0.mk (HT2.out.drawn hd)
        clear hd
        by_cases h16 : d = 16777216
        · have HU1 := Aside0.mk (HU.out.trans (if_pos (by omega)))
          have i3 : (16777216 : Int) < (d : Int) + 1 := by omega
          clear h16
          go_wp2
          go_ret2
          rw [HU1.out]
          exact ⟨rfl, HR3.out, HT3.out⟩
        · have b3 : decide ((16777216 : Int) < (d : Int) + 1) = false := decide_eq_false (by omega)
          have H17 := Aside0.mk (show d < 16777216 by omega)
          clear h16 hdl
          go_wp2
          have h17 := H17.out
          go_roundg (gk - 1)
          case measure => omega
          case rel => exact ⟨d + 1, by omega, by omega, ⟨by omega⟩, by go_num, HR3, HT3⟩
      · obtain rfl : d = Z := by omega
        rw [HZ1.out hlt] at HPK
        have HU1 := Aside0.mk (HU.out.trans ((if_neg (by omega)).trans (if_neg (by omega))))
        have hne : ((d : Int) == (m : Int)) = false := by simp; omega
        have hne2 : ¬ (d : Int) = (m : Int) := by omega
        obtain ⟨q, hq⟩ : ∃ q, p + d = q := ⟨_, rfl⟩
        rw [hq] at HPK HU1
        have eq1 : (p : Int) + (d : Int) = (q : Int) := by omega
        have hq2 : q ≤ 4503599627370496 := by omega
        have HQ := Aside0.mk hq
        clear hq HU
        go_wp2_with fail
        refine (at_any g _ _ c0).mono ?_
        rintro e w2 ⟨rfl, rfl⟩
        go_wp2_with fail
        refine (HPK.out _ HR2.out).mono ?_
        rintro e w3 ⟨rfl, hd⟩
        have HR3 := Aside0.mk (HR2.out.drawn hd)
        have HT3 := Aside0.mk (HT2.out.drawn hd)
        clear hd c0
        have c0 := HR3.out.place
        have f0 := blk_frozen HR3.out 0
        go_wp2_with fail
        refine (on_any g p ((d : Int) + 1) _ c0 f0 (by omega) (by omega) (by omega) (by omega)).mono ?_
        rintro e w2 ⟨rfl, rfl⟩
        go_wp2
        go_ret2
        rw [HU1.out]
        refine ⟨rfl, ?_, HT3.out.set hB 0 _⟩
        have := HR3.out.to (q := q + 1)
        rw [show ((q + 1 : Nat) : Int) = (p : Int) + ((d : Int) + 1) by have := HQ.out; omega] at this
        exact this
    · obtain rfl : d = m := by omega
      have hzm : Z = d := by omega
      have HU1 := Aside0.mk (HU.out.trans ((if_neg (by omega)).trans (if_pos hzm)))
      clear hzm HU
      go_wp2
      go_ret2
      rw [HU1.out]
      exact ⟨rfl, HR2.out, HT2.out⟩
end Go.Proofs.Ytfhekkoibmlmpaa.Hand
