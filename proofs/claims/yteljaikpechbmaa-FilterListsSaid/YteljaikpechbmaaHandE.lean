/- Contracts of layer 17, proved by hand: steps. -/
import Derived.Test.YteljaikpechbmaaMathA
import Derived.Test.YteljaikpechbmaaHandD
namespace Go.Proofs.Yteljaikpechbmaa.Hand
open Go.RowKit Go.Proofs.Yteljaikpechbmaa.Q Go.Proofs.YteljaikpechbmaaW.PrintWords Go.Proofs.YteljaikpechbmaaW.PrintLast Go.Proofs.YteljaikpechbmaaW.PrintMore
set_option linter.unusedVariables false
set_option linter.unusedSimpArgs false

/-- Where a step lies. -/
inductive Lay where
  | last (g : Nat)
  | taps (g bw bs : Nat)
def Lay.blocks : Lay → List Nat
  | .last g => [g]
  | .taps g bw bs => [g, bw, bs]
def Lay.val : Lay → Value
  | .last g => .iface 45 (.pointer (some ⟨g, 0, none⟩))
  | .taps g _ _ => .iface 48 (.pointer (some ⟨g, 0, none⟩))
def StepAt (w : World) (B : Nat) : Lay → Step → Prop
  | .last g, s => s.W = [] ∧ B ≤ g ∧ ∃ x, s.S = [x] ∧ LastAt w g x
  | .taps g bw bs, s => B ≤ g ∧ B ≤ bw ∧ B ≤ bs ∧ 0 < s.W.length ∧ s.S.length = s.W.length ∧ ∃ saw a, TapAt w g bw bs s.W.length s.W saw a ∧ ∀ i, i < s.W.length → saw.getD ((a + i) % s.W.length) 0 = s.seen i
theorem LastAt.kept {w w' : World} {g : Nat} {x : Int} {S : Nat → Prop} (h : LastAt w g x) (k : Kept w w' S) (hg : ¬ S g) : LastAt w' g x := blk_kept h k hg
theorem StepAt.kept {w w' : World} {B : Nat} {l : Lay} {s : Step} {S : Nat → Prop} (h : StepAt w B l s) (k : Kept w w' S) (hs : ∀ b ∈ l.blocks, ¬ S b) : StepAt w' B l s := by
  cases l with
  | last g =>
    obtain ⟨h1, h2, x, h3, h4⟩ := h
    exact ⟨h1, h2, x, h3, h4.kept k (hs g (by simp [Lay.blocks]))⟩
  | taps g bw bs =>
    obtain ⟨h1, h2, h3, h4, h5, saw, a, h6, h7⟩ := h
    exact ⟨h1, h2, h3, h4, h5, saw, a, h6.kept k (hs g (by simp [Lay.blocks])) (hs bw (by simp [Lay.blocks])) (hs bs (by simp [Lay.blocks])), h7⟩
theorem StepAt.lt {w : World} {B : Nat} {l : Lay} {s : Step} (h : StepAt w B l s) : ∀ b ∈ l.blocks, B ≤ b ∧ b < w.heap.size := by
  cases l with
  | last g =>
    obtain ⟨h1, h2, x, h3, h4⟩ := h
    intro b hb
    rw [List.mem_singleton.1 hb]
    exact ⟨h2, blk_lt h4⟩
  | taps g bw bs =>
    obtain ⟨h1, h2, h3, h4, h5, saw, a, h6, h7⟩ := h
    intro b hb
    simp only [Lay.blocks, List.mem_cons, List.not_mem_nil, or_false] at hb
    rcases hb with rfl | rfl | rfl
    · exact ⟨h1, blk_lt h6.hd⟩
    · exact ⟨h2, blk_lt h6.wr⟩
    · exact ⟨h3, blk_lt h6.sr⟩
theorem StepAt.of_drawn {w w' : World} {B : Nat} {l : Lay} {s : Step} (h : StepAt w B l s) (d : Drawn0 w w') : StepAt w' B l s := by
  obtain ⟨m, rfl⟩ := d
  exact h.kept (Kept.drewN (Kept.refl w (fun _ => False)) m) (fun _ _ h => h)
theorem fsum_congr (ws : List Int) (f g : Nat → Int) : ∀ k, (∀ i, i < k → f i = g i) → fsum ws f k = fsum ws g k
  | 0, _ => rfl
  | k + 1, h => by rw [fsum, fsum, fsum_congr ws f g k (fun i hi => h i (by omega)), h k (by omega)]
theorem wsee_congr (ws : List Int) (f g : Nat → Int) (l : Int) : ∀ k, (∀ i, i < k → f i = g i) → wsee ws f l k = wsee ws g l k
  | 0, _ => rfl
  | k + 1, h => by rw [wsee, wsee, wsee_congr ws f g l k (fun i hi => h i (by omega)), h k (by omega)]
theorem ring_in {n a : Nat} {saw : List Int} {s : Step} (ho : Okay s) (hl : saw.length = n) (ha : a < n) (h : ∀ i, i < n → saw.getD ((a + i) % n) 0 = s.seen i) (k : Nat) : -2147483648 ≤ saw.getD k 0 ∧ saw.getD k 0 ≤ 2147483647 := by
  rcases Nat.lt_or_ge k n with hk | hk
  · rcases Nat.lt_or_ge k a with h1 | h1
    · have := h (k + n - a) (by omega)
      rw [show a + (k + n - a) = k + n by omega, Nat.add_mod_right, Nat.mod_eq_of_lt hk] at this
      rw [this]
      exact ho.seen _
    · have := h (k - a) (by omega)
      rw [show a + (k - a) = k by omega, Nat.mod_eq_of_lt hk] at this
      rw [this]
      exact ho.seen _
  · rw [List.getD_eq_getElem?_getD, List.getElem?_eq_none (by omega)]
    exact ⟨by decide, by decide⟩
theorem lastF_step {w : World} {B g : Nat} {s : Step} (h : StepAt w B (.last g) s) (ho : Okay s) : Calls Try.prog 48 #[.pointer (some ⟨g, 0, none⟩)] w fun e w' => e = .returned (.int .i64 s.tell) ∧ Drawn0 w w' := by
  obtain ⟨h1, h2, x, h3, h4⟩ := h
  have hx : s.seen 0 = x := by unfold Step.seen; rw [h3]; rfl
  have ht : s.tell = x * 31 / 32 := by unfold Step.tell; rw [if_pos (by rw [h1]; rfl), hx]
  have hb := ho.seen 0
  rw [hx] at hb
  rw [ht]
  exact lastF_any g x w h4 hb.1 hb.2
theorem tapsF_step {w : World} {B g bw bs : Nat} {s : Step} (h : StepAt w B (.taps g bw bs) s) (ho : Okay s) : Calls Try.prog 50 #[.pointer (some ⟨g, 0, none⟩)] w fun e w' => e = .returned (.int .i64 s.tell) ∧ Drawn0 w w' := by
  obtain ⟨h1, h2, h3, h4, h5, saw, a, h6, h7⟩ := h
  have ht : s.tell = fsum s.W (fun i => saw.getD ((a + i) % s.W.length) 0) s.W.length / 8192 := by
    unfold Step.tell
    rw [if_neg (by omega), fsum_congr s.W s.seen (fun i => saw.getD ((a + i) % s.W.length) 0) s.W.length (fun i hi => (h7 i hi).symm)]
  rw [ht]
  exact foretell_any g bw bs s.W.length s.W saw a ho.n ho.w w h6
theorem lastS_step {w : World} {B g : Nat} {s : Step} (h : StepAt w B (.last g) s) (x l : Int) : Calls Try.prog 49 #[.pointer (some ⟨g, 0, none⟩), .int .i64 x, .int .i64 l] w fun e w' => e = .returned (.tuple #[]) ∧ StepAt w' B (.last g) (s.see x l) ∧ Saw B (fun k => k ∈ (Lay.last g).blocks) w w' := by
  obtain ⟨h1, h2, y, h3, h4⟩ := h
  refine (lastS_any g y x l w h4).mono ?_
  rintro e w' ⟨rfl, rfl⟩
  refine ⟨rfl, ⟨?_, h2, x, ?_, blk_put h4 0 _ rfl⟩, (Saw.refl _ _ _).set g 0 h2 (by simp [Lay.blocks]) _⟩
  · show wsee s.W s.seen l s.W.length = []
    rw [h1]
    rfl
  · show x :: s.S.dropLast = [x]
    rw [h3]
    rfl
theorem tapsS_step {w : World} {B g bw bs : Nat} {s : Step} (h : StepAt w B (.taps g bw bs) s) (ho : Okay s) (x l : Int) (l0 : -9223372036854775808 ≤ l) (l1 : l ≤ 9223372036854775807) : Calls Try.prog 51 #[.pointer (some ⟨g, 0, none⟩), .int .i64 x, .int .i64 l] w fun e w' => e = .returned (.tuple #[]) ∧ StepAt w' B (.taps g bw bs) (s.see x l) ∧ Saw B (fun k => k ∈ (Lay.taps g bw bs).blocks) w w' := by
  obtain ⟨h1, h2, h3, h4, h5, saw, a, h6, h7⟩ := h
  have hr := ring_in ho h6.sl h6.al h7
  refine (see_any g bw bs s.W.length s.W saw a ho.n ho.w x l l0 l1 (fun k => by have := hr k; omega) B h1 h2 h3 w h6).mono ?_
  rintro e w' ⟨rfl, hT, hM⟩
  have hlen : (s.see x l).W.length = s.W.length := wsee_length _ _ _ _
  have hw : wsee s.W (fun i => saw.getD ((a + i) % s.W.length) 0) l s.W.length = (s.see x l).W := wsee_congr _ _ _ _ _ h7
  rw [hw] at hT
  refine ⟨rfl, ⟨h1, h2, h3, by rw [hlen]; exact h4, ?_, _, _, by rw [hlen]; exact hT, ?_⟩, hM.mono ?_⟩
  · rw [hlen]
    show (x :: s.S.dropLast).length = _
    rw [List.length_cons, List.length_dropLast]
    omega
  · rw [hlen]
    exact ring_see s.W.length a saw s.S x h4 h6.al h6.sl h5 h7
  · rintro k (rfl | rfl | rfl) <;> simp [Lay.blocks]
end Go.Proofs.Yteljaikpechbmaa.Hand
