/- Contracts of layer 17, proved by hand: new chains of the reference, walked. -/
import Derived.Test.YteljaikpechbmaaHandT
namespace Go.Proofs.Yteljaikpechbmaa.Hand
open Go.RowKit Go.Proofs.Yteljaikpechbmaa.Q Go.Proofs.YteljaikpechbmaaW.PrintWords Go.Proofs.YteljaikpechbmaaW.PrintLast Go.Proofs.YteljaikpechbmaaW.PrintMore
set_option linter.unusedVariables false
set_option linter.unusedSimpArgs false
attribute [local go_sem] max2_int min2_int max_two min_two

def XFreshChain (k : Int) (w : World) (e : Ending) (w' : World) : Prop :=
  ∃ g v ls, e = .returned (.pointer (some ⟨g, 0, none⟩)) ∧ XChAt w' w.heap.size g v ls (start k) ∧ Below w.heap.size w w'
set_option maxHeartbeats 4000000 in
theorem xNew_none (k : Int) (h : k < 0 ∨ 2 < k) (w : World) : Calls Try.prog 9 #[.int .i64 k] w fun e w' => e = .returned (.pointer none) ∧ Below w.heap.size w w' := by
  have hb : (decide (k < 0) || decide (k > 2)) = true := by simpa using h
  by_cases h0 : k < 0
  · clear h hb
    go_enter Try.func9, Try.ntmps9
    go_wp2
    go_ret
    exact ⟨rfl, ((((Below.refl _ _).alloc (Nat.le_refl _) _).alloc (by simp) _).alloc (by simp; omega) _).alloc (by simp; omega) _⟩
  · have h2 : 2 < k := by omega
    clear h hb
    go_enter Try.func9, Try.ntmps9
    go_wp2
    go_ret
    exact ⟨rfl, ((((Below.refl _ _).alloc (Nat.le_refl _) _).alloc (by simp) _).alloc (by simp; omega) _).alloc (by simp; omega) _⟩
/-- Where the numbers of a level's taps lie. -/
def TapsIn (w : World) (k : Nat) (z b : Nat) (ns : List Nat) : Prop :=
  (∃ cs : Array Value, w.heap[z]? = some (.cells cs 22 (0, 0)) ∧ cs[k]? = some (.slice (some ⟨b, 0, none⟩) ns.length ns.length)) ∧ w.heap[b]? = some (.cells (ns.map fun (n : Nat) => Value.int .i64 (n : Int)).toArray 3 (0, 0))
theorem TapsIn.below {w w' : World} {k z b B : Nat} {ns : List Nat} (h : TapsIn w k z b ns) (hb : Below B w w') (hz : z < B) (hbb : b < B) : TapsIn w' k z b ns := by
  obtain ⟨⟨cs, h1, h2⟩, h3⟩ := h
  exact ⟨⟨cs, (hb.block z hz).trans h1, h2⟩, (hb.block b hbb).trans h3⟩
theorem TapsIn.cells {w : World} {k z b : Nat} {ns : List Nat} (h : TapsIn w k z b ns) : w.cell? ⟨z, k, none⟩ = some (.slice (some ⟨b, 0, none⟩) ns.length ns.length) ∧ ∀ i, i < ns.length → w.cell? ⟨b, i, none⟩ = some (.int .i64 (ns.getD i 0 : Nat)) := by
  obtain ⟨⟨cs, h1, h2⟩, h3⟩ := h
  refine ⟨(blk_cell h1 k).trans h2, fun i hi => (blk_cell h3 i).trans ?_⟩
  simp [List.getD, hi]
theorem taps_start (w : World) (k : Nat) (hk : k ≤ 2) : ∃ b ns,
    TapsIn (((((w.alloc (.cells #[] 3)).alloc (.cells #[.int .i64 0, .int .i64 16] 3)).alloc (.cells #[.int .i64 0, .int .i64 32, .int .i64 16] 3)).alloc (.cells #[.slice (some ⟨w.heap.size, 0, none⟩) 0 0, .slice (some ⟨w.heap.size + 1, 0, none⟩) 2 2, .slice (some ⟨w.heap.size + 1 + 1, 0, none⟩) 3 3] 22)).alloc (.cells #[.slice none 0 0] 53)) k (w.heap.size + 1 + 1 + 1) b ns ∧ ns.map stepOf = start k ∧ ns.length ≤ 3 ∧ (∀ n ∈ ns, n ≤ 32) ∧ b ≤ w.heap.size + 1 + 1 ∧
    XChAt (((((w.alloc (.cells #[] 3)).alloc (.cells #[.int .i64 0, .int .i64 16] 3)).alloc (.cells #[.int .i64 0, .int .i64 32, .int .i64 16] 3)).alloc (.cells #[.slice (some ⟨w.heap.size, 0, none⟩) 0 0, .slice (some ⟨w.heap.size + 1, 0, none⟩) 2 2, .slice (some ⟨w.heap.size + 1 + 1, 0, none⟩) 3 3] 22)).alloc (.cells #[.slice none 0 0] 53)) (w.heap.size + 1 + 1 + 1 + 1) (w.heap.size + 1 + 1 + 1 + 1) (.slice none 0 0) [] [] ∧
    Below w.heap.size w (((((w.alloc (.cells #[] 3)).alloc (.cells #[.int .i64 0, .int .i64 16] 3)).alloc (.cells #[.int .i64 0, .int .i64 32, .int .i64 16] 3)).alloc (.cells #[.slice (some ⟨w.heap.size, 0, none⟩) 0 0, .slice (some ⟨w.heap.size + 1, 0, none⟩) 2 2, .slice (some ⟨w.heap.size + 1 + 1, 0, none⟩) 3 3] 22)).alloc (.cells #[.slice none 0 0] 53)) := by
  have hB := ((((((Below.refl w.heap.size w).alloc (Nat.le_refl _) (.cells #[] 3)).alloc (by simp) (.cells #[.int .i64 0, .int .i64 16] 3)).alloc (by simp; omega) (.cells #[.int .i64 0, .int .i64 32, .int .i64 16] 3)).alloc (by simp; omega) (.cells #[.slice (some ⟨w.heap.size, 0, none⟩) 0 0, .slice (some ⟨w.heap.size + 1, 0, none⟩) 2 2, .slice (some ⟨w.heap.size + 1 + 1, 0, none⟩) 3 3] 22)).alloc (by simp; omega) (.cells #[.slice none 0 0] 53))
  have b0 := blk_new w (.cells #[] 3)
  have s1 : (w.alloc (.cells #[] 3)).heap.size = w.heap.size + 1 := by simp
  generalize w.alloc (.cells #[] 3) = w1 at b0 s1 hB ⊢
  have b1 := blk_new w1 (.cells #[.int .i64 0, .int .i64 16] 3)
  have b0' := blk_alloc b0 (.cells #[.int .i64 0, .int .i64 16] 3)
  have s2 : (w1.alloc (.cells #[.int .i64 0, .int .i64 16] 3)).heap.size = w.heap.size + 1 + 1 := by simp [s1]
  generalize w1.alloc (.cells #[.int .i64 0, .int .i64 16] 3) = w2 at b0' b1 s2 hB ⊢
  have b2 := blk_new w2 (.cells #[.int .i64 0, .int .i64 32, .int .i64 16] 3)
  have b1' := blk_alloc b1 (.cells #[.int .i64 0, .int .i64 32, .int .i64 16] 3)
  have b0'' := blk_alloc b0' (.cells #[.int .i64 0, .int .i64 32, .int .i64 16] 3)
  have s3 : (w2.alloc (.cells #[.int .i64 0, .int .i64 32, .int .i64 16] 3)).heap.size = w.heap.size + 1 + 1 + 1 := by simp [s2]
  generalize w2.alloc (.cells #[.int .i64 0, .int .i64 32, .int .i64 16] 3) = w3 at b0'' b1' b2 s3 hB ⊢
  have b3 := blk_new w3 (.cells #[.slice (some ⟨w.heap.size, 0, none⟩) 0 0, .slice (some ⟨w.heap.size + 1, 0, none⟩) 2 2, .slice (some ⟨w.heap.size + 1 + 1, 0, none⟩) 3 3] 22)
  have c2 := blk_alloc b2 (.cells #[.slice (some ⟨w.heap.size, 0, none⟩) 0 0, .slice (some ⟨w.heap.size + 1, 0, none⟩) 2 2, .slice (some ⟨w.heap.size + 1 + 1, 0, none⟩) 3 3] 22)
  have c1 := blk_alloc b1' (.cells #[.slice (some ⟨w.heap.size, 0, none⟩) 0 0, .slice (some ⟨w.heap.size + 1, 0, none⟩) 2 2, .slice (some ⟨w.heap.size + 1 + 1, 0, none⟩) 3 3] 22)
  have c0 := blk_alloc b0'' (.cells #[.slice (some ⟨w.heap.size, 0, none⟩) 0 0, .slice (some ⟨w.heap.size + 1, 0, none⟩) 2 2, .slice (some ⟨w.heap.size + 1 + 1, 0, none⟩) 3 3] 22)
  have s4 : (w3.alloc (.cells #[.slice (some ⟨w.heap.size, 0, none⟩) 0 0, .slice (some ⟨w.heap.size + 1, 0, none⟩) 2 2, .slice (some ⟨w.heap.size + 1 + 1, 0, none⟩) 3 3] 22)).heap.size = w.heap.size + 1 + 1 + 1 + 1 := by simp [s3]
  generalize w3.alloc (.cells #[.slice (some ⟨w.heap.size, 0, none⟩) 0 0, .slice (some ⟨w.heap.size + 1, 0, none⟩) 2 2, .slice (some ⟨w.heap.size + 1 + 1, 0, none⟩) 3 3] 22) = w4 at b3 c0 c1 c2 s4 hB ⊢
  have b4 := blk_new w4 (.cells #[.slice none 0 0] 53)
  have d0 := blk_alloc c0 (.cells #[.slice none 0 0] 53)
  have d1 := blk_alloc c1 (.cells #[.slice none 0 0] 53)
  have d2 := blk_alloc c2 (.cells #[.slice none 0 0] 53)
  have d3 := blk_alloc b3 (.cells #[.slice none 0 0] 53)
  rw [s4] at b4
  rw [s3] at d3
  rw [s2] at d2
  rw [s1] at d1
  have hX : XChAt (w4.alloc (.cells #[.slice none 0 0] 53)) (w.heap.size + 1 + 1 + 1 + 1) (w.heap.size + 1 + 1 + 1 + 1) (.slice none 0 0) [] [] :=
    ⟨b4, Kd.R_nil kP _ _ _ _, Nat.le_refl _, rfl, fun i r s h => by simp at h, fun i j r q _ h => by simp at h, fun s hs => by simp at hs, by simp⟩
  match k, hk with
  | 0, _ => exact ⟨w.heap.size, [], ⟨⟨_, d3, rfl⟩, d0⟩, rfl, by simp, by simp, by omega, hX, hB⟩
  | 1, _ => exact ⟨w.heap.size + 1, [0, 16], ⟨⟨_, d3, rfl⟩, d1⟩, rfl, by simp, by simp, by omega, hX, hB⟩
  | 2, _ => exact ⟨w.heap.size + 1 + 1, [0, 32, 16], ⟨⟨_, d3, rfl⟩, d2⟩, rfl, by simp, by simp, by omega, hX, hB⟩
theorem XChAt.lower {w : World} {B B' g : Nat} {v : Value} {ls : List XL} {st : List Step} (h : XChAt w B g v ls st) (hb : B' ≤ B) : XChAt w B' g v ls st :=
  ⟨h.hd, Kd.R_lower h.row hb, Nat.le_trans hb h.base, h.len, fun i r s h1 h2 => by
    have := h.step i r s h1 h2
    exact ⟨this.hd, Kd.R_lower this.wr hb, Kd.R_lower this.sr hb, Nat.le_trans hb this.base, this.ne⟩, h.apart, h.okay, h.few⟩
theorem xnew_head {wr W w1 : World} {B g : Nat} {v : Value} {ls : List XL} {st : List Step} (HC : XChAt wr B g v ls st) (hW : Below wr.heap.size wr W) (HG : W.grownBy w1 v.ownBlock) : w1.heap[g]? = some (.cells #[v] 53 (0, 0)) := by
  have hg : v.ownBlock ≠ some g := (Kd.R_ne HC.row HC.hd (by decide)).symm
  have k2 : Kept W w1 (fun k => v.ownBlock = some k) := Kept.of_grown HG (Kept.refl W _) (fun k hk => .inl hk)
  have k1 : Kept wr w1 (fun k => v.ownBlock = some k) := (Kept.of_below hW (fun k => v.ownBlock = some k)).then_ k2 (fun _ h => .inl h)
  exact blk_kept HC.hd k1 hg
set_option maxHeartbeats 8000000 in
set_option maxRecDepth 100000 in
theorem xNew_any (k : Nat) (hk : k ≤ 2) (w : World) : Calls Try.prog 9 #[.int .i64 k] w (XFreshChain k w) := by
  have k0 : (0 : Int) ≤ (k : Int) := by omega
  have k1 : ¬ ((k : Int) < 0) := by omega
  have k2 : ¬ ((k : Int) > 2) := by omega
  have k3 : (k : Int) < 3 := by omega
  obtain ⟨b, ns, t1, t2, t3, t4, t5, t6, t7⟩ := taps_start w k hk
  go_enter Try.func9, Try.ntmps9
  go_wp2
  generalize (((((w.alloc (.cells #[] 3)).alloc (.cells #[.int .i64 0, .int .i64 16] 3)).alloc (.cells #[.int .i64 0, .int .i64 32, .int .i64 16] 3)).alloc (.cells #[.slice (some ⟨w.heap.size, 0, none⟩) 0 0, .slice (some ⟨w.heap.size + 1, 0, none⟩) 2 2, .slice (some ⟨w.heap.size + 1 + 1, 0, none⟩) 3 3] 22)).alloc (.cells #[.slice none 0 0] 53)) = w1 at t1 t6 t7 ⊢
  have hzw : w.heap.size ≤ w.heap.size + 1 + 1 + 1 := by omega
  have hbz : b < w.heap.size + 1 + 1 + 1 := by omega
  clear t5
  generalize w.heap.size + 1 + 1 + 1 = z at t1 t6 hzw hbz ⊢
  have HT := Aside0.mk t1
  have HE := Aside0.mk t2
  have HN := Aside0.mk t4
  have HX := Aside0.mk t6
  have HB := Aside0.mk t7
  obtain ⟨n, hn⟩ : ∃ n, ns.length = n := ⟨_, rfl⟩
  rw [hn] at t3
  have HL := Aside0.mk hn
  clear t1 t2 t4 t6 t7 hn
  go_loopw [5] (fun iv wr => ∃ (i : Nat) (v : Value) (ls : List XL), i ≤ n ∧ ls.length = i ∧ iv = .int .i64 i ∧ Aside0 (XChAt wr (z + 1) (z + 1) v ls ((ns.take i).map stepOf)) ∧ Aside0 (Below (z + 1) w1 wr)) (fun iv _ => n - (intOf iv).toNat)
  case atStart => exact ⟨0, _, [], Nat.zero_le _, rfl, rfl, HX, ⟨Below.refl _ _⟩⟩
  case round =>
    clear HX
    obtain ⟨i, v, ls, hi, hls, rfl, HC, HM⟩ := hrel
    have HLS := Aside0.mk hls
    clear hls
    have HT2 := Aside0.mk (HT.out.below HM.out (by omega) (by omega))
    obtain ⟨cA, cB⟩ := HT2.out.cells
    rw [HL.out] at cA cB
    by_cases hlt : i < n
    · have i0 : (0 : Int) ≤ (i : Int) := by omega
      have i1 : (i : Int) < (n : Int) := by omega
      have cB' := cB i hlt
      have ht : ns.take (i + 1) = ns.take i ++ [ns.getD i 0] := by
        rw [List.take_succ_eq_append_getElem (by rw [HL.out]; exact hlt)]
        simp [List.getD, HL.out, hlt]
      have hm : ns.getD i 0 ∈ ns := by
        have hi2 : i < ns.length := by rw [HL.out]; exact hlt
        simp [List.getD, hi2]
      have hm2 := HN.out _ hm
      have c0 : wr.cell? ⟨z + 1, 0, none⟩ = some v := blk_cell HC.out.hd 0
      obtain ⟨A, c, rfl⟩ := HC.out.shape
      rw [HLS.out] at HC c0
      generalize ns.getD i 0 = m at ht hm hm2 cB'
      obtain ⟨M, hM⟩ : ∃ M : Nat, M = if m = 0 then 1 else m := ⟨_, rfl⟩
      have hM2 : (if (1 : Int) < (m : Int) then (m : Int) else 1) = (M : Int) := by rw [hM]; split <;> split <;> omega
      have hM3 : M ≤ 64 := by rw [hM]; split <;> omega
      have m0 : (0 : Int) ≤ (m : Int) := by omega
      have M0 : (0 : Int) ≤ (M : Int) := by omega
      have HMM := Aside0.mk hM
      have m1 := make64 m (by omega)
      have m2 := make64 M hM3
      have HTK := Aside0.mk ht
      have hz1 : z + 1 < wr.heap.size := blk_lt HC.out.hd
      have hz2 : z + 1 < wr.heap.size + 1 := by omega
      have hz3 : z + 1 < wr.heap.size + 1 + 1 := by omega
      have hz4 : z + 1 < wr.heap.size + 1 + 1 + 1 := by omega
      have hzr : z + 1 ≤ wr.heap.size := by have := HC.out.base; have := blk_lt HC.out.hd; omega
      have HLM : Aside0 ((ls.map XL.g).length < 1000) := ⟨by rw [List.length_map, HLS.out]; omega⟩
      have HXa := Aside0.mk (xfresh_a wr m M (by omega) hM3 hM)
      have HWa : Aside0 (Below wr.heap.size wr (((wr.alloc (.cells (zrow .i64 m) 3)).alloc (.cells (zrow .i64 M) 3)).alloc (.cells #[.slice (some ⟨wr.heap.size, 0, none⟩) m m, .slice (some ⟨wr.heap.size + 1, 0, none⟩) M M] 56))) := ⟨(((Below.refl _ _).alloc (Nat.le_refl _) _).alloc (by simp) _).alloc (by simp; omega) _⟩
      have HSa : (((wr.alloc (.cells (zrow .i64 m) 3)).alloc (.cells (zrow .i64 M) 3)).alloc (.cells #[.slice (some ⟨wr.heap.size, 0, none⟩) m m, .slice (some ⟨wr.heap.size + 1, 0, none⟩) M M] 56)).heap.size = wr.heap.size + 1 + 1 + 1 := by simp
      have HRa := Aside0.mk (Kd.R_below HC.out.row HWa.out)
      have HMa : Aside0 (Below (z + 1) w1 (((wr.alloc (.cells (zrow .i64 m) 3)).alloc (.cells (zrow .i64 M) 3)).alloc (.cells #[.slice (some ⟨wr.heap.size, 0, none⟩) m m, .slice (some ⟨wr.heap.size + 1, 0, none⟩) M M] 56))) := ⟨HM.out.trans (HWa.out.mono hzr)⟩
      have HXb := Aside0.mk (xfresh_b wr m M (by omega) hM3 hM)
      have HWb : Aside0 (Below wr.heap.size wr (((wr.alloc (.cells (zrow .i64 M) 3)).alloc (.cells (zrow .i64 m) 3)).alloc (.cells #[.slice (some ⟨wr.heap.size + 1, 0, none⟩) m m, .slice (some ⟨wr.heap.size, 0, none⟩) M M] 56))) := ⟨(((Below.refl _ _).alloc (Nat.le_refl _) _).alloc (by simp) _).alloc (by simp; omega) _⟩
      have HSb : (((wr.alloc (.cells (zrow .i64 M) 3)).alloc (.cells (zrow .i64 m) 3)).alloc (.cells #[.slice (some ⟨wr.heap.size + 1, 0, none⟩) m m, .slice (some ⟨wr.heap.size, 0, none⟩) M M] 56)).heap.size = wr.heap.size + 1 + 1 + 1 := by simp
      have HRb := Aside0.mk (Kd.R_below HC.out.row HWb.out)
      have HMb : Aside0 (Below (z + 1) w1 (((wr.alloc (.cells (zrow .i64 M) 3)).alloc (.cells (zrow .i64 m) 3)).alloc (.cells #[.slice (some ⟨wr.heap.size + 1, 0, none⟩) m m, .slice (some ⟨wr.heap.size, 0, none⟩) M M] 56))) := ⟨HM.out.trans (HWb.out.mono hzr)⟩
      clear cB hM hm ht
      go_wp2
      go_region_law (first | ((with_reducible refine app_ptr (w0 := w1) (W := (((wr.alloc (.cells (zrow .i64 m) 3)).alloc (.cells (zrow .i64 M) 3)).alloc (.cells #[.slice (some ⟨wr.heap.size, 0, none⟩) m m, .slice (some ⟨wr.heap.size + 1, 0, none⟩) M M] 56))) (B := z + 1) (.tmp 39) (.tmp 47) (wr.heap.size + 1 + 1) (v := .slice A i c) (xs := ls.map XL.g) ?_ ?_ ?_ (wr.heap.size + 1 + 1 + 1) ?_ ?_ ?_ ?_ ?_ ?_ ?_); rfl; rfl; rfl; rfl; exact HSa.symm; exact HRa.out; exact HMa.out; (rw [HSa]; omega); exact HLM.out; intro v1 w2 HO1 HB1 HG1; obtain ⟨A1, k1, e1⟩ := Kd.R_slice HO1.out; subst e1; have hd2 := xnew_head HC.out HWa.out HG1.out; have f11 : w2.frozen? ⟨z + 1, 0, none⟩ = false := blk_frozen hd2 0; have c11 : w2.cell? ⟨z + 1, 0, none⟩ = some (.slice A i c) := blk_cell hd2 0; have HF : ∃ ls' : List XL, ls'.length = i + 1 ∧ Aside0 (XChAt (w2.setCell ⟨z + 1, 0, none⟩ (.slice A1 (ls.map XL.g ++ [wr.heap.size + 1 + 1]).length k1)) (z + 1) (z + 1) (.slice A1 (ls.map XL.g ++ [wr.heap.size + 1 + 1]).length k1) ls' ((ns.take i).map stepOf ++ [stepOf m])) := ⟨_, (by rw [List.length_append, HLS.out]; rfl), ⟨xnew_close HC.out HWa.out HXa.out (stepOf_okay m (by omega)) (by rw [HLS.out]; omega) (Below.refl _ _) HO1.out HG1.out⟩⟩; have HB3 := Aside0.mk (HB1.out.setCell (p := ⟨z + 1, 0, none⟩) (Nat.le_refl _) (.slice A1 (ls.map XL.g ++ [wr.heap.size + 1 + 1]).length k1)); clear HXa HXb HWa HWb HRa HRb HMa HMb HC HM HO1 HB1 HG1 hd2) | ((with_reducible refine app_ptr (w0 := w1) (W := (((wr.alloc (.cells (zrow .i64 M) 3)).alloc (.cells (zrow .i64 m) 3)).alloc (.cells #[.slice (some ⟨wr.heap.size + 1, 0, none⟩) m m, .slice (some ⟨wr.heap.size, 0, none⟩) M M] 56))) (B := z + 1) (.tmp 39) (.tmp 47) (wr.heap.size + 1 + 1) (v := .slice A i c) (xs := ls.map XL.g) ?_ ?_ ?_ (wr.heap.size + 1 + 1 + 1) ?_ ?_ ?_ ?_ ?_ ?_ ?_); rfl; rfl; rfl; rfl; exact HSb.symm; exact HRb.out; exact HMb.out; (rw [HSb]; omega); exact HLM.out; intro v1 w2 HO1 HB1 HG1; obtain ⟨A1, k1, e1⟩ := Kd.R_slice HO1.out; subst e1; have hd2 := xnew_head HC.out HWb.out HG1.out; have f11 : w2.frozen? ⟨z + 1, 0, none⟩ = false := blk_frozen hd2 0; have c11 : w2.cell? ⟨z + 1, 0, none⟩ = some (.slice A i c) := blk_cell hd2 0; have HF : ∃ ls' : List XL, ls'.length = i + 1 ∧ Aside0 (XChAt (w2.setCell ⟨z + 1, 0, none⟩ (.slice A1 (ls.map XL.g ++ [wr.heap.size + 1 + 1]).length k1)) (z + 1) (z + 1) (.slice A1 (ls.map XL.g ++ [wr.heap.size + 1 + 1]).length k1) ls' ((ns.take i).map stepOf ++ [stepOf m])) := ⟨_, (by rw [List.length_append, HLS.out]; rfl), ⟨xnew_close HC.out HWb.out HXb.out (stepOf_okay m (by omega)) (by rw [HLS.out]; omega) (Below.refl _ _) HO1.out HG1.out⟩⟩; have HB3 := Aside0.mk (HB1.out.setCell (p := ⟨z + 1, 0, none⟩) (Nat.le_refl _) (.slice A1 (ls.map XL.g ++ [wr.heap.size + 1 + 1]).length k1)); clear HXa HXb HWa HWb HRa HRb HMa HMb HC HM HO1 HB1 HG1 hd2))
      all_goals
        have hz5 : (ls.map XL.g ++ [wr.heap.size + 1 + 1]).length = ls.length + 1 := by simp
        obtain ⟨ls2, hl2, HF⟩ := HF
        rw [hz5] at HF HB3
        go_wp2
        go_roundw
        case rel => exact ⟨i + 1, _, ls2, by omega, hl2, by go_num, ⟨by rw [HTK.out, List.map_append]; exact HF.out⟩, HB3⟩
        case measure => simp [intOf]; omega
    · obtain rfl : i = n := by omega
      clear cB
      go_wp2
      go_ret
      have e1 : ns.take i = ns := by rw [← HL.out, List.take_length]
      rw [e1, HE.out] at HC
      exact ⟨_, _, _, rfl, HC.out.lower (by omega), HB.out.trans (HM.out.mono (by omega))⟩
end Go.Proofs.Yteljaikpechbmaa.Hand
