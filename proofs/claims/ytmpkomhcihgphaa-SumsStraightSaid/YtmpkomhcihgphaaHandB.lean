/- Contracts of layer 3, proved by hand: the table. -/
import Derived.Test.YtmpkomhcihgphaaHandA
namespace Go.Proofs.Ytmpkomhcihgphaa.Hand
open Go.RowKit Go.Proofs.YtmpkomhcihgphaaW.PrintWords Go.Proofs.YtmpkomhcihgphaaW.PrintLast Go.Proofs.YtmpkomhcihgphaaW.PrintMore
set_option linter.unusedVariables false
set_option linter.unusedSimpArgs false

/-- 256 numbers of 32 bits as cells. -/
def cells256 (f : Nat → Int) : Array Value := ((List.range 256).map fun j => Value.int .u32 (f j)).toArray
theorem zero_arr (w : World) : (zeroValue 47).run Try.prog w = .ok (.agg (cells256 fun _ => 0)) w := by kernel_rfl
theorem cells256_set (f g : Nat → Int) (i : Nat) (x : Int) (h : ∀ j, j < 256 → g j = if j = i then x else f j) : (cells256 f).setIfInBounds i (.int .u32 x) = cells256 g := by
  apply Array.ext_getElem?
  intro j
  unfold cells256
  rw [Array.getElem?_setIfInBounds]
  by_cases hj : j < 256
  · by_cases e : i = j
    · subst e
      simp [hj, h i hj]
    · have := h j hj
      rw [if_neg (fun q => e q.symm)] at this
      simp [hj, e, this]
  · by_cases e : i = j
    · subst e
      simp [hj]
    · simp [hj, e]
theorem cells256_at (f : Nat → Int) (i : Nat) (h : i < 256) : (cells256 f)[i]? = some (.int .u32 (f i)) := by simp [cells256, h]

theorem cells256_size (f : Nat → Int) : (cells256 f).size = 256 := by simp [cells256]
theorem cells256_congr {f g : Nat → Int} (h : ∀ j, j < 256 → f j = g j) : cells256 f = cells256 g := by
  unfold cells256
  congr 1
  exact List.map_congr_left (fun j hj => by rw [h j (List.mem_range.1 hj)])
theorem cells256_one (f : Nat → Int) : (cells256 f).all (·.oneCell') = true := by simp [cells256, Value.oneCell']
theorem info256 {f : Nat → Int} : (Try.prog.info? 47).map (·.size) = some (cells256 f).size := by rw [cells256_size]; kernel_rfl
theorem below_setCells {B g : Nat} {w W : World} (h : Below B w W) (hg : B ≤ g) (o : Nat) (vs : List Value) : Below B w (W.setCells g o vs) := by
  obtain ⟨s1, s2, s3, s4⟩ := setCells_same g vs o W
  exact ⟨s1.trans h.os, s2.trans h.tape, s3.trans h.output, by rw [s4]; exact h.size, fun k hk => (setCells_far vs o k (by omega)).trans (h.block k hk)⟩
/-- A bit's step of the table, the highest bit first. -/
def stepH (b p x : Int) : Int := if (Go.bits .and .u32 (x / 2 ^ (b.toNat - 1)) 1 == 1) = true then Go.bits .xor .u32 (x * 2 % 4294967296) (p % 4294967296) else x * 2 % 4294967296
def stepsH (b p n : Int) : Nat → Int
  | 0 => n
  | k + 1 => stepH b p (stepsH b p n k)
/-- What a byte does to a sum. -/
def tabH (b p : Int) (j : Nat) : Int := stepsH b p ((j : Int) * 2 ^ (b - 8).toNat % 4294967296) 8
set_option maxHeartbeats 4000000 in
set_option maxRecDepth 100000 in
theorem table_high (b p : Int) (hb : 8 ≤ b) (hb2 : b ≤ 32) (w : World) :
    Calls Try.prog 26 #[.agg #[.int .i64 b, .int .i64 p, .bool false]] w fun e w' => e = .returned (.agg (cells256 (tabH b p))) ∧ Below w.heap.size w w' := by
  have hz := zero_arr
  go_enter Try.func26, Try.ntmps26
  go_wp2
  have hs : ∀ g : Nat, g = w.heap.size → ((w.alloc (Obj.cells #[Value.int IntKind.i64 b, Value.int IntKind.i64 p, Value.bool false] 42)).alloc (Obj.cells (cells256 fun _ => 0) 47)).heap[g]? = some (.cells #[Value.int IntKind.i64 b, Value.int IntKind.i64 p, Value.bool false] 42 (0, 0)) := by
    intro g e; subst e
    exact blk_alloc (blk_new w _) _
  have hr : ∀ g : Nat, g = w.heap.size + 1 → ((w.alloc (Obj.cells #[Value.int IntKind.i64 b, Value.int IntKind.i64 p, Value.bool false] 42)).alloc (Obj.cells (cells256 fun _ => 0) 47)).heap[g]? = some (.cells (cells256 fun _ => 0) 47 (0, 0)) := by
    intro g e
    have e2 : g = (w.alloc (Obj.cells #[Value.int IntKind.i64 b, Value.int IntKind.i64 p, Value.bool false] 42)).heap.size := by rw [e]; simp
    subst e2
    exact blk_new _ _
  have hbw := below_alloc (below_alloc (Below.refl w.heap.size w) (Obj.cells #[Value.int IntKind.i64 b, Value.int IntKind.i64 p, Value.bool false] 42)) (Obj.cells (cells256 fun _ => 0) 47)
  have hsz : ((w.alloc (Obj.cells #[Value.int IntKind.i64 b, Value.int IntKind.i64 p, Value.bool false] 42)).alloc (Obj.cells (cells256 fun _ => 0) 47)).heap.size = w.heap.size + 2 := by simp
  generalize ((w.alloc (Obj.cells #[Value.int IntKind.i64 b, Value.int IntKind.i64 p, Value.bool false] 42)).alloc (Obj.cells (cells256 fun _ => 0) 47)) = w1 at hs hr hbw hsz ⊢
  have hs1 := hs _ rfl
  have hr1 := hr _ rfl
  clear hs hr
  have ht : (w1.alloc (Obj.cells (cells256 fun _ => 0) 47)).heap[w.heap.size + 1 + 1]? = some (.cells (cells256 fun _ => 0) 47 (0, 0)) := hsz ▸ blk_new w1 _
  have HT := Aside0.mk ht
  have HB1 := Aside0.mk (below_alloc (Below.refl w1.heap.size w1) (Obj.cells (cells256 fun _ => 0) 47))
  have HS1 := Aside0.mk hs1
  have HR1 := Aside0.mk hr1
  have HBW := Aside0.mk hbw
  have HSZ := Aside0.mk hsz
  clear ht hs1 hr1 hbw hsz
  go_loopw [4, 5, 6] (fun i n c wr => ∃ d : Nat, d ≤ 256 ∧ c = .int .i64 d ∧ Aside0 (wr.heap[w.heap.size + 1 + 1]? = some (.cells (cells256 fun j => if j < d then tabH b p j else 0) 47 (0, 0))) ∧ Aside0 (Below w1.heap.size w1 wr)) (fun _ _ c _ => 256 - (intOf c).toNat)
  case atStart => exact ⟨0, by omega, rfl, HT, HB1⟩
  case round =>
    obtain ⟨d, hd, rfl, HC, HB⟩ := hrel
    by_cases hlt : d < 256
    · have i1 : (d : Int) < 256 := by omega
      have hs2 : wr.heap[w.heap.size]? = some (.cells #[Value.int IntKind.i64 b, Value.int IntKind.i64 p, Value.bool false] 42 (0, 0)) := blk_below HS1.out HB.out
      have c0 : wr.cell? ⟨w.heap.size, 0, none⟩ = some (.int .i64 b) := blk_cell hs2 0
      have c1 : wr.cell? ⟨w.heap.size, 1, none⟩ = some (.int .i64 p) := blk_cell hs2 1
      have c2 : wr.cell? ⟨w.heap.size, 2, none⟩ = some (.bool false) := blk_cell hs2 2
      clear hs2
      go_wp2
      go_loop [5, 19] (fun n c => ∃ k : Nat, k ≤ 8 ∧ c = .int .i64 k ∧ n = .int .u32 (stepsH b p ((d : Int) * 2 ^ (b - 8).toNat % 4294967296) k)) (fun _ c => 8 - (intOf c).toNat)
      case atStart => exact ⟨0, by omega, rfl, rfl⟩
      case round =>
        obtain ⟨k, hk, rfl, rfl⟩ := hrel
        by_cases hlt2 : k < 8
        · have i2 : (k : Int) < 8 := by omega
          obtain ⟨x, hx⟩ : ∃ x, stepsH b p ((d : Int) * 2 ^ (b - 8).toNat % 4294967296) k = x := ⟨_, rfl⟩
          have HX := Aside0.mk hx
          rw [hx]
          clear hx
          by_cases hbit : (Go.bits BinOp.and IntKind.u32 (x / 2 ^ (b.toNat - 1)) 1 == 1) = true
          · have HST := Aside0.mk (show stepH b p x = _ from if_pos hbit)
            go_wp2
            exact ⟨⟨k + 1, by omega, by go_num, by simp only [stepsH]; rw [HX.out, HST.out]⟩, by simp [intOf]; omega⟩
          · have HST := Aside0.mk (show stepH b p x = _ from if_neg hbit)
            have hbit := Bool.eq_false_iff.2 hbit
            go_wp2
            exact ⟨⟨k + 1, by omega, by go_num, by simp only [stepsH]; rw [HX.out, HST.out]⟩, by simp [intOf]; omega⟩
        · obtain rfl : k = 8 := by omega
          have f1 : (wr.cell? ⟨w.heap.size + 1 + 1, d, none⟩) = some (.int .u32 0) := by rw [blk_cell HC.out, cells256_at _ _ hlt]; simp
          have f2 : wr.frozen? ⟨w.heap.size + 1 + 1, d, none⟩ = false := blk_frozen HC.out d
          go_wp2
          refine ⟨⟨d + 1, by omega, by go_num, ⟨?_⟩, ⟨HB.out.setCell (by rw [HSZ.out]; exact Nat.le_refl _) _⟩⟩, by simp [intOf]; omega⟩
          exact blk_put HC.out d _ (cells256_set _ _ d _ (fun j hj => by
            by_cases e : j = d
            · subst e; simp; rfl
            · by_cases e2 : j < d
              · simp [e, e2, show j < d + 1 by omega]
              · simp [e, e2, show ¬ j < d + 1 by omega]))
    · obtain rfl : d = 256 := by omega
      have e1 : (cells256 fun j => if j < 256 then tabH b p j else 0) = cells256 (tabH b p) := cells256_congr (fun j hj => if_pos hj)
      have HC2 := Aside0.mk (e1 ▸ HC.out)
      have hres := blk_below HR1.out HB.out
      have hth : wr.there (w.heap.size + 1) 0 (cells256 (tabH b p)).size := fun j hj => by
        rw [cells256_size] at hj
        rw [Nat.zero_add]
        exact ⟨by rw [blk_cell hres, cells256_at _ _ hj]; rfl, blk_frozen hres j⟩
      obtain ⟨cur, hcur, hcz, hcl⟩ := setCells_row (cells256 (tabH b p)).toList 0 wr _ hres (by simp [cells256_size])
      have hcur2 : (wr.setCells (w.heap.size + 1) 0 (cells256 (tabH b p)).toList).heap[w.heap.size + 1]? = some (.cells (cells256 (tabH b p)) 47 (0, 0)) := by
        rw [hcur]
        have : cur = cells256 (tabH b p) := by
          apply Array.toList_inj.1
          rw [hcl]
          simp [cells256_size]
        rw [this]
      have HRES := Aside0.mk hcur2
      have HTH := Aside0.mk hth
      clear hcur hcz hcl hcur2 hres hth e1 HC
      go_wp2_with (first
        | (with_reducible refine wpList_load_row rfl 47 (.tmp 3) rfl (w.heap.size + 1 + 1) rfl _ _ _ _ HC2.out Try.underlying47 rfl info256 ?_)
        | (with_reducible refine wpList_store_mid rfl 47 (.tmp 2) (.tmp 61) rfl (w.heap.size + 1) 0 (cells256 (tabH b p)) rfl rfl HTH.out info256 (cells256_one _) ?_))
      refine bodyPost_ret (results_cell_row rfl _ _ (w.heap.size + 1) _ _ _ _ rfl HRES.out Try.underlying47 rfl info256) rfl ?_
      exact ⟨rfl, below_setCells (HBW.out.trans (HB.out.mono (by rw [HSZ.out]; omega))) (by omega) _ _⟩
end Go.Proofs.Ytmpkomhcihgphaa.Hand
