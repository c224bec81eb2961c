/- Contracts of layer 17, proved by hand: a step of the reference foretells. -/
import Derived.Test.YteljaikpechbmaaHandO
namespace Go.Proofs.Yteljaikpechbmaa.Hand
open Go.RowKit Go.Proofs.Yteljaikpechbmaa.Q Go.Proofs.YteljaikpechbmaaW.PrintWords Go.Proofs.YteljaikpechbmaaW.PrintLast Go.Proofs.YteljaikpechbmaaW.PrintMore
set_option linter.unusedVariables false
set_option linter.unusedSimpArgs false
attribute [local go_sem] max2_int min2_int max_two min_two

/-- Numbers of one's own. -/
def Own (w : World) (B : Nat) (v : Value) (xs : List Int) : Prop := Kd.R (Kd.int .i64) 3 w B (fun k => v.ownBlock = some k) v xs
theorem Own.C {w : World} {B : Nat} {v : Value} {xs : List Int} (h : Own w B v xs) : ∃ A c, v = .slice A xs.length c ∧ xs.length ≤ c ∧ Kd.C (Kd.int .i64) w A xs.length xs := Kd.R_reads h
theorem Own.kept {w w' : World} {B : Nat} {v : Value} {xs : List Int} {S : Nat → Prop} (h : Own w B v xs) (k : Kept w w' S) (hs : ∀ b, v.ownBlock = some b → ¬ S b) : Own w' B v xs := Kd.R_kept h k hs
theorem Own.of {w : World} {B : Nat} {ok : Nat → Prop} {v : Value} {xs : List Int} (h : Kd.R (Kd.int .i64) 3 w B ok v xs) : Own w B v xs := by
  obtain ⟨h0, inner, hown, hr⟩ := h
  exact ⟨fun k hk => hk, inner, hown, hr.imp_ (fun _ _ hm => hm)⟩
/-- Number i of a row. -/
theorem Own.place {w : World} {B : Nat} {v : Value} {xs : List Int} (h : Own w B v xs) (i : Nat) (hi : i < xs.length) :
    ∃ b c, v = .slice (some ⟨b, 0, none⟩) xs.length c ∧ xs.length ≤ c ∧ w.cell? ⟨b, i, none⟩ = some (.int .i64 (xs.getD i 0)) ∧ w.frozen? ⟨b, i, none⟩ = false ∧ B ≤ b ∧ b < w.heap.size := by
  obtain ⟨inner, hown⟩ := Kd.R_own h
  obtain ⟨A, c, e, hlc, hC⟩ := Kd.R_reads h
  have hr := Kd.reads_of_C (d := (0 : Int)) (enc := Value.int .i64) hC
  rcases hown.2 with ⟨e2, h0⟩ | ⟨b, cap, cur, e2, hb, hblk, _⟩
  · omega
  · rw [e2] at e
    injection e with e3 _ e4
    subst e3 e4
    obtain ⟨ad, e5, hcell⟩ := ReadsOf.at_ hr (i : Int) (by omega) (by omega)
    injection e5 with e5
    subst e5
    refine ⟨b, cap, e2, hlc, ?_, ?_, hb, blk_lt hblk⟩
    · have : (⟨b, 0, none⟩ : Addr).add (i : Int).toNat = ⟨b, i, none⟩ := by rw [add_plain]; simp
      rw [this] at hcell
      simpa [rdOf] using hcell
    · exact blk_frozen hblk i
theorem drawn_heap {w w' : World} (h : Drawn0 w w') : w'.heap = w.heap := by
  obtain ⟨m, rfl⟩ := h
  rfl
/-- A step of the reference: its head, its weights, its numbers. -/
structure XStep (w : World) (B g : Nat) (wv sv : Value) (s : Step) : Prop where
  hd : w.heap[g]? = some (.cells #[wv, sv] 56 (0, 0))
  wr : Own w B wv s.W
  sr : Own w B sv s.S
  base : B ≤ g
  ne : ∀ k, wv.ownBlock = some k → sv.ownBlock ≠ some k
theorem XStep.kept {w w' : World} {B g : Nat} {wv sv : Value} {s : Step} {S : Nat → Prop} (h : XStep w B g wv sv s) (k : Kept w w' S) (h1 : ¬ S g) (h2 : ∀ b, wv.ownBlock = some b → ¬ S b) (h3 : ∀ b, sv.ownBlock = some b → ¬ S b) : XStep w' B g wv sv s :=
  ⟨blk_kept h.hd k h1, h.wr.kept k h2, h.sr.kept k h3, h.base, h.ne⟩
theorem XStep.heap {w w' : World} {B g : Nat} {wv sv : Value} {s : Step} (h : XStep w B g wv sv s) (e : w'.heap = w.heap) : XStep w' B g wv sv s :=
  h.kept (S := fun _ => False) ⟨by rw [e]; exact Nat.le_refl _, fun i _ _ => by rw [e]⟩ (fun h => h) (fun _ _ h => h) (fun _ _ h => h)
set_option maxHeartbeats 4000000 in
theorem xtell_first (s : Step) (B g : Nat) (wv sv : Value) (ho : Okay s) (h0 : s.W.length = 0) (w : World) (h : XStep w B g wv sv s) :
    Calls Try.prog 27 #[.pointer (some ⟨g, 0, none⟩)] w fun e w' => e = .returned (.int .i64 s.tell) ∧ Drawn0 w w' := by
  have c0 : w.cell? ⟨g, 0, none⟩ = some wv := blk_cell h.hd 0
  have c1 : w.cell? ⟨g, 1, none⟩ = some sv := blk_cell h.hd 1
  have hl := ho.l
  rw [if_pos h0] at hl
  obtain ⟨A, c, rfl, hc1, hc2⟩ := h.wr.C
  obtain ⟨b, d, rfl, hd1, cs, fs, hb1, hb2⟩ := h.sr.place 0 (by omega)
  have ht : s.tell = s.seen 0 * 31 / 32 := by unfold Step.tell; rw [if_pos h0]
  have hx := ho.seen 0
  have hse : s.S.getD 0 0 = s.seen 0 := rfl
  rw [hse] at cs
  rw [ht]
  rw [h0] at c0
  rw [hl] at c1
  generalize s.seen 0 = x at cs hx ⊢
  obtain ⟨x1, x2⟩ := hx
  clear h hl ht hse h0 hc2 hc1
  go_enter Try.func27, Try.ntmps27
  go_wp2
  go_ret
  exact ⟨rfl, Drawn0.refl _⟩
set_option maxHeartbeats 8000000 in
theorem xtell_taps (s : Step) (B g : Nat) (wv sv : Value) (ho : Okay s) (h0 : s.W.length ≠ 0) (w : World) (h : XStep w B g wv sv s) :
    Calls Try.prog 27 #[.pointer (some ⟨g, 0, none⟩)] w fun e w' => e = .returned (.int .i64 s.tell) ∧ Drawn0 w w' := by
  have H := Aside0.mk h
  have hl := ho.l
  rw [if_neg h0] at hl
  have hn := ho.n
  have ht : s.tell = fsum s.W s.seen s.W.length / 8192 := by unfold Step.tell; rw [if_neg h0]
  rw [ht]
  have HOK := Aside0.mk ho
  obtain ⟨n, hnn⟩ : ∃ n, s.W.length = n := ⟨_, rfl⟩
  have HN := Aside0.mk hnn
  rw [hnn] at hl hn h0 ⊢
  have HL := Aside0.mk hl
  have hz : ((n : Int) == 0) = false := by simp; exact h0
  have HZ := Aside0.mk (show 0 < n by omega)
  have c0 : w.cell? ⟨g, 0, none⟩ = some wv := blk_cell h.hd 0
  obtain ⟨A, c, rfl, hc1, hc2⟩ := h.wr.C
  rw [hnn] at c0
  clear h hl ht hnn hc2 hc1 h0
  go_enter Try.func27, Try.ntmps27
  go_wp2
  clear c0
  go_loopw [3, 4] (fun sv iv wr => ∃ k : Nat, k ≤ n ∧ iv = .int .i64 k ∧ sv = .int .i64 (fsum s.W s.seen k) ∧ Aside0 (Drawn0 w wr)) (fun _ iv _ => n - (intOf iv).toNat)
  case atStart => exact ⟨0, Nat.zero_le _, rfl, rfl, ⟨Drawn0.refl _⟩⟩
  case round =>
    obtain ⟨k, hk, rfl, rfl, HD⟩ := hrel
    have HS := Aside0.mk (H.out.heap (drawn_heap HD.out))
    by_cases hlt : k < n
    · have i0 : (0 : Int) ≤ (k : Int) := by omega
      have i1 : (k : Int) < (n : Int) := by omega
      have c0 : wr.cell? ⟨g, 0, none⟩ = _ := blk_cell HS.out.hd 0
      have c1 : wr.cell? ⟨g, 1, none⟩ = _ := blk_cell HS.out.hd 1
      obtain ⟨bw, cw, e1, hd1, cw1, _, _, _⟩ := HS.out.wr.place k (by rw [HN.out]; exact hlt)
      obtain ⟨bs, cs, e2, hd2, cs1, _, _, _⟩ := HS.out.sr.place k (by rw [HL.out]; exact hlt)
      have c0' : wr.cell? ⟨g, 0, none⟩ = some (.slice (some ⟨bw, 0, none⟩) n cw) := by rw [c0, ← HN.out]; exact congrArg some e1
      have c1' : wr.cell? ⟨g, 1, none⟩ = some (.slice (some ⟨bs, 0, none⟩) n cs) := by rw [c1, ← HL.out]; exact congrArg some e2
      have cs1' : wr.cell? ⟨bs, k, none⟩ = some (.int .i64 (s.seen k)) := cs1
      have hs1 : fsum s.W s.seen (k + 1) = fsum s.W s.seen k + s.W.getD k 0 * clamp (s.seen k) := rfl
      obtain ⟨s1, s2⟩ := fsum_in HOK.out.w s.seen k
      have b1 := HOK.out.w.at k
      have b2 := HOK.out.seen k
      obtain ⟨p1, p2⟩ := prod_in b1 (clamp_in (s.seen k))
      have hcl := clamp_in (s.seen k)
      have hck : ∃ c1 : Int, (if 32767 < s.seen k then 32767 else s.seen k) = c1 ∧ (if -32768 < c1 then c1 else -32768) = clamp (s.seen k) := ⟨_, rfl, by unfold clamp; split <;> split <;> (try split) <;> omega⟩
      obtain ⟨q1, hq1, hq2⟩ := hck
      clear c0 c1 cs1 hd1 hd2
      generalize fsum s.W s.seen k = S at hs1 s1 s2
      generalize s.W.getD k 0 = y at hs1 cw1 b1 p1 p2
      generalize clamp (s.seen k) = c2 at hs1 hq2 p1 p2 hcl
      generalize s.seen k = x at hq1 cs1' b2
      obtain ⟨p, hp⟩ : ∃ p, y * c2 = p := ⟨_, rfl⟩
      rw [hp] at hs1 p1 p2
      have ep : IntKind.i64.wrap (y * c2) = p := by rw [hp, IntKind.wrap_i64]; omega
      have HS2 := Aside0.mk hs1
      have es : IntKind.i64.wrap (S + p) = S + p := by rw [IntKind.wrap_i64]; omega
      clear hs1 hp s1 s2
      go_wp2
      go_big_quiet (fail)
      have HD2 : Aside0 (Drawn0 w (wr.drewN nq)) := ⟨HD.out.step nq⟩
      go_wp2
      go_roundw
      case rel => exact ⟨k + 1, by omega, by go_num, by rw [HS2.out], HD2⟩
      case measure => simp [intOf]; omega
    · obtain rfl : k = n := by omega
      have c0 : wr.cell? ⟨g, 0, none⟩ = _ := blk_cell HS.out.hd 0
      obtain ⟨bw, cw, e1, hd1, cw1, _, _, _⟩ := HS.out.wr.place 0 (by rw [HN.out]; exact HZ.out)
      have c0' : wr.cell? ⟨g, 0, none⟩ = some (.slice (some ⟨bw, 0, none⟩) k cw) := by rw [c0, ← HN.out]; exact congrArg some e1
      clear c0 hd1 cw1
      go_wp2
      go_ret
      exact ⟨rfl, HD.out⟩
end Go.Proofs.Yteljaikpechbmaa.Hand
