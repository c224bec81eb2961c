/- Contracts of layer 17, proved by hand: new chains of the reference. -/
import Derived.Test.YteljaikpechbmaaHandS
namespace Go.Proofs.Yteljaikpechbmaa.Hand
open Go.RowKit Go.Proofs.Yteljaikpechbmaa.Q Go.Proofs.YteljaikpechbmaaW.PrintWords Go.Proofs.YteljaikpechbmaaW.PrintLast Go.Proofs.YteljaikpechbmaaW.PrintMore
set_option linter.unusedVariables false
set_option linter.unusedSimpArgs false
attribute [local go_sem] max2_int min2_int max_two min_two

theorem Own.zeros (w : World) (B n : Nat) (hB : B ≤ w.heap.size) (hn : n ≤ 64) : Own (w.alloc (.cells (zrow .i64 n) 3)) B (.slice (some ⟨w.heap.size, 0, none⟩) n n) (List.replicate n 0) := by
  refine Own.of (ok := fun _ => True) (Kd.R_of_own ?_ (fun _ _ => trivial))
  have := World.ownsRow_lit (base := B) (e := 3) (size := 1) w (zrow .i64 n) n hB (by unfold maxLen; omega) (by simp [zrow])
  simpa [encs, zrow] using this
/-- A step that is new. -/
def stepOf (n : Nat) : Step := if n = 0 then first else fresh n
theorem stepOf_eq (n M : Nat) (hM : M = if n = 0 then 1 else n) : stepOf n = ⟨List.replicate n 0, List.replicate M 0⟩ := by
  unfold stepOf
  by_cases h : n = 0
  · subst h
    rw [if_pos rfl] at hM ⊢
    subst hM
    rfl
  · rw [if_neg h] at hM ⊢
    subst hM
    rfl
theorem stepOf_okay (n : Nat) (hn : n ≤ 64) : Okay (stepOf n) := by
  unfold stepOf
  split
  · exact first_okay
  · exact fresh_okay n (by omega) hn
theorem xstep_mk (W : World) (B : Nat) (wv sv : Value) (W0 S0 : List Int) (hw : Own W B wv W0) (hs : Own W B sv S0) (hne : ∀ k, wv.ownBlock = some k → sv.ownBlock ≠ some k) (hB : B ≤ W.heap.size) :
    XStep (W.alloc (.cells #[wv, sv] 56)) B W.heap.size wv sv ⟨W0, S0⟩ :=
  ⟨blk_new W _, hw.kept (Kept.alloc (Kept.refl _ (fun _ => False)) _) (fun _ _ h => h), hs.kept (Kept.alloc (Kept.refl _ (fun _ => False)) _) (fun _ _ h => h), hB, hne⟩
/-- A new step's blocks, the weights first; the numbers first. -/
theorem xfresh_a (w : World) (n M : Nat) (hn : n ≤ 64) (hM : M ≤ 64) (hE : M = if n = 0 then 1 else n) : XStep (((w.alloc (.cells (zrow .i64 n) 3)).alloc (.cells (zrow .i64 M) 3)).alloc (.cells #[.slice (some ⟨w.heap.size, 0, none⟩) n n, .slice (some ⟨w.heap.size + 1, 0, none⟩) M M] 56)) w.heap.size (w.heap.size + 1 + 1) (.slice (some ⟨w.heap.size, 0, none⟩) n n) (.slice (some ⟨w.heap.size + 1, 0, none⟩) M M) (stepOf n) := by
  rw [stepOf_eq n M hE]
  have h1 := Own.zeros w w.heap.size n (Nat.le_refl _) hn
  have s1 : (w.alloc (.cells (zrow .i64 n) 3)).heap.size = w.heap.size + 1 := by simp
  have h2 := Own.zeros (w.alloc (.cells (zrow .i64 n) 3)) w.heap.size M (by omega) hM
  rw [s1] at h2
  have h1' := h1.kept (Kept.alloc (Kept.refl _ (fun _ => False)) (.cells (zrow .i64 M) 3)) (fun _ _ h => h)
  have s2 : ((w.alloc (.cells (zrow .i64 n) 3)).alloc (.cells (zrow .i64 M) 3)).heap.size = w.heap.size + 1 + 1 := by simp
  have := xstep_mk _ w.heap.size _ _ _ _ h1' h2 (by intro k hk; simp [Value.ownBlock] at hk ⊢; omega) (by omega)
  rw [s2] at this
  exact this
theorem xfresh_b (w : World) (n M : Nat) (hn : n ≤ 64) (hM : M ≤ 64) (hE : M = if n = 0 then 1 else n) : XStep (((w.alloc (.cells (zrow .i64 M) 3)).alloc (.cells (zrow .i64 n) 3)).alloc (.cells #[.slice (some ⟨w.heap.size + 1, 0, none⟩) n n, .slice (some ⟨w.heap.size, 0, none⟩) M M] 56)) w.heap.size (w.heap.size + 1 + 1) (.slice (some ⟨w.heap.size + 1, 0, none⟩) n n) (.slice (some ⟨w.heap.size, 0, none⟩) M M) (stepOf n) := by
  rw [stepOf_eq n M hE]
  have h1 := Own.zeros w w.heap.size M (Nat.le_refl _) hM
  have s1 : (w.alloc (.cells (zrow .i64 M) 3)).heap.size = w.heap.size + 1 := by simp
  have h2 := Own.zeros (w.alloc (.cells (zrow .i64 M) 3)) w.heap.size n (by omega) hn
  rw [s1] at h2
  have h1' := h1.kept (Kept.alloc (Kept.refl _ (fun _ => False)) (.cells (zrow .i64 n) 3)) (fun _ _ h => h)
  have s2 : ((w.alloc (.cells (zrow .i64 M) 3)).alloc (.cells (zrow .i64 n) 3)).heap.size = w.heap.size + 1 + 1 := by simp
  have := xstep_mk _ w.heap.size _ _ _ _ h2 h1' (by intro k hk; simp [Value.ownBlock] at hk ⊢; omega) (by omega)
  rw [s2] at this
  exact this
/-- A step more. -/
theorem xnew_close {wr W W2 w1 : World} {B g b : Nat} {v wv sv v1 : Value} {ls : List XL} {st : List Step} {s : Step} {ok : Nat → Prop} (HC : XChAt wr B g v ls st) (hW : Below wr.heap.size wr W) (HX : XStep W wr.heap.size b wv sv s) (ho : Okay s) (hlen : ls.length + 1 ≤ 3)
    (h2 : Below W.heap.size W W2) (HO1 : Kd.R kP 54 w1 B ok v1 (ls.map XL.g ++ [b])) (HG : W2.grownBy w1 v.ownBlock) :
    XChAt (w1.setCell ⟨g, 0, none⟩ v1) B g v1 (ls ++ [⟨b, wv, sv⟩]) (st ++ [s]) := by
  have hg : v.ownBlock ≠ some g := (Kd.R_ne HC.row HC.hd (by decide)).symm
  have hlt := blk_lt HC.hd
  have hvl : ∀ k, v.ownBlock = some k → k < wr.heap.size := Kd.R_lt HC.row
  have hB : B ≤ wr.heap.size := by have := HC.base; omega
  have k2 : Kept W w1 (fun k => v.ownBlock = some k) := Kept.of_grown HG (Kept.of_below h2 _) (fun k hk => .inl hk)
  have k1 : Kept wr w1 (fun k => v.ownBlock = some k) := (Kept.of_below hW (fun k => v.ownBlock = some k)).then_ k2 (fun _ h => .inl h)
  have hd1 := blk_kept HC.hd k1 hg
  have ks : ∀ u, Kept w1 (w1.setCell ⟨g, 0, none⟩ u) (fun k => k = g) := fun u => (Kept.refl w1 (fun k => k = g)).setCell (p := ⟨g, 0, none⟩) (.inl rfl) u
  have k3 : Kept wr (w1.setCell ⟨g, 0, none⟩ v1) (fun k => k = g ∨ v.ownBlock = some k) := (k1.mono (fun _ h => .inr h)).then_ (ks v1) (fun _ h => .inl (.inl h))
  have k4 : Kept W (w1.setCell ⟨g, 0, none⟩ v1) (fun k => k = g ∨ v.ownBlock = some k) := (k2.mono (fun _ h => .inr h)).then_ (ks v1) (fun _ h => .inl (.inl h))
  have hnew : ∀ k, XO b wv sv k → wr.heap.size ≤ k := fun k hk => (HX.own_lt hk).1
  have hgs : (ls ++ [(⟨b, wv, sv⟩ : XL)]).map XL.g = ls.map XL.g ++ [b] := by simp
  have hnot : ∀ k, XO b wv sv k → ¬ (k = g ∨ v.ownBlock = some k) := fun k hk h => by
    have h1 := hnew k hk
    rcases h with rfl | h
    · omega
    · have := hvl k h; omega
  have hX : XStep (w1.setCell ⟨g, 0, none⟩ v1) B b wv sv s := by
    have := HX.kept k4 (hnot b (.inl rfl)) (fun k hk => hnot k (.inr (.inl hk))) (fun k hk => hnot k (.inr (.inr hk)))
    exact ⟨this.hd, Kd.R_lower this.wr hB, Kd.R_lower this.sr hB, by have := this.base; omega, this.ne⟩
  refine ⟨blk_put hd1 0 v1 rfl, ?_, HC.base, by simp [HC.len], ?_, ?_, ?_, by simpa using hlen⟩
  · rw [hgs]
    have hr : Kd.R kP 54 w1 B (fun k => v1.ownBlock = some k) v1 (ls.map XL.g ++ [b]) := by
      obtain ⟨h0, inner, hown, hr⟩ := HO1
      exact ⟨fun k hk => hk, inner, hown, hr.imp_ (fun _ _ hm => hm)⟩
    exact Kd.R_kept hr (ks v1) (fun k hk e => (Kd.R_ne hr hd1 (by decide)) (by rw [← e]; exact hk.symm))
  · intro i r z hr hz
    rcases Nat.lt_or_ge i ls.length with hi | hi
    · rw [List.getElem?_append_left hi] at hr
      rw [List.getElem?_append_left (by rw [HC.len]; exact hi)] at hz
      have hx := HC.step i r z hr hz
      have hno : ∀ k, XO r.g r.wv r.sv k → ¬ (k = g ∨ v.ownBlock = some k) := fun k hk h => HC.head_ne h ⟨r, List.mem_of_getElem? hr, hk⟩
      exact hx.kept k3 (hno _ (.inl rfl)) (fun k hk => hno k (.inr (.inl hk))) (fun k hk => hno k (.inr (.inr hk)))
    · rw [List.getElem?_append_right hi] at hr
      rw [List.getElem?_append_right (by rw [HC.len]; exact hi), HC.len] at hz
      obtain ⟨e, rfl⟩ : i - ls.length = 0 ∧ r = ⟨b, wv, sv⟩ := by
        cases hj : i - ls.length with
        | zero => rw [hj] at hr; simp at hr; exact ⟨rfl, hr.symm⟩
        | succ j => rw [hj] at hr; simp at hr
      rw [e] at hz
      simp at hz
      subst hz
      exact hX
  · intro i j r q hij hr hq k hk1 hk2
    have side : ∀ (m : Nat) (p : XL), (ls ++ [(⟨b, wv, sv⟩ : XL)])[m]? = some p → (m < ls.length ∧ ls[m]? = some p) ∨ (m = ls.length ∧ p = ⟨b, wv, sv⟩) := by
      intro m p hp
      rcases Nat.lt_or_ge m ls.length with hi | hi
      · rw [List.getElem?_append_left hi] at hp; exact .inl ⟨hi, hp⟩
      · rw [List.getElem?_append_right hi] at hp
        cases hj : m - ls.length with
        | zero => rw [hj] at hp; simp at hp; exact .inr ⟨by omega, hp.symm⟩
        | succ j => rw [hj] at hp; simp at hp
    rcases side i r hr with ⟨h1, h2'⟩ | ⟨h1, rfl⟩ <;> rcases side j q hq with ⟨h3, h4⟩ | ⟨h3, rfl⟩
    · exact HC.apart i j r q hij h2' h4 k hk1 hk2
    · have := hnew k hk2
      have := (HC.own_lt ⟨r, List.mem_of_getElem? h2', hk1⟩).2
      omega
    · have := hnew k hk1
      have := (HC.own_lt ⟨q, List.mem_of_getElem? h4, hk2⟩).2
      omega
    · omega
  · intro q hq
    rcases List.mem_append.1 hq with hq | hq
    · exact HC.okay q hq
    · rw [List.mem_singleton.1 hq]; exact ho
theorem infoP : (Try.prog.info? 54).map (fun i => (i.zero, i.size, i.bytes)) = some (some (.pointer none), 1, 8) := by kernel_rfl
section
variable {ops : Array Oper} {o : Oper} {a : Act} {Q : Exit → Act → World → Prop} {Kc : Act → World → Prop}
theorem app_ptr {w0 W : World} {B : Nat} (s x : Operand) (b : Nat) {v : Value} {xs : List Nat} (hw : Region.wanted o (yielded ops a.tmps) = true)
    (ho : o.op = .call { callee := .builtin .append, args := #[s, x], argTypes := #[51, 51] }) (hs : a.eval s = v) (p : Nat) (hx : a.eval x = .slice (some ⟨p, 0, none⟩) 1 1) (hp : p = W.heap.size)
    (HO : Kd.R kP 54 W B (fun k => v.ownBlock = some k) v xs) (HB : Below B w0 W) (hB : B ≤ W.heap.size) (hl : xs.length < 1000)
    (h : ∀ v1 w1, Aside0 (Kd.R kP 54 w1 B (fun _ => True) v1 (xs ++ [b])) → Aside0 (Below B w0 w1) → Aside0 (W.grownBy w1 v.ownBlock) → Kc (a.put o.dst v1) w1) :
    if Region.wanted o (yielded ops a.tmps) = true then Oper.wp Try.prog o a (W.alloc (.cells #[.pointer (some ⟨b, 0, none⟩)] 54)).drew Kc Q else Kc (a.put o.dst undef) (W.alloc (.cells #[.pointer (some ⟨b, 0, none⟩)] 54)).drew := by
  subst hp
  exact Kd.R_append_step kP (w0 := w0) (W := W.drew) B hw s x 51 54 (.pointer none) 8 ho Try.underlying51 infoP rfl (by decide) (by decide) v xs b [.pointer (some ⟨b, 0, none⟩)] (fun _ => True) (fun _ => False) hs hx rfl (fun _ hk => hk.elim)
    (fun _ _ => trivial) (Kd.R_mono (Kd.R_drew HO) (fun _ _ => trivial)) (below_drew HB) hB (by omega) (fun v1 w1 h1 h2 h3 _ => h v1 w1 ⟨h1⟩ ⟨h2⟩ ⟨⟨h3.os, h3.tape, h3.output, h3.size, h3.block⟩⟩)
end
end Go.Proofs.Yteljaikpechbmaa.Hand
