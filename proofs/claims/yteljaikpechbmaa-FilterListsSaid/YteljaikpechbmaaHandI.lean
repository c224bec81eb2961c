/- Contracts of layer 17, proved by hand: new chains. -/
import Derived.Test.YteljaikpechbmaaHandH
namespace Go.Proofs.Yteljaikpechbmaa.Hand
open Go.RowKit Go.Proofs.Yteljaikpechbmaa.Q Go.Proofs.YteljaikpechbmaaW.PrintWords Go.Proofs.YteljaikpechbmaaW.PrintLast Go.Proofs.YteljaikpechbmaaW.PrintMore
set_option linter.unusedVariables false
set_option linter.unusedSimpArgs false

def first : Step := ⟨[], [0]⟩
def fresh (n : Nat) : Step := ⟨List.replicate n 0, List.replicate n 0⟩
def start (k : Int) : List Step := if k = 1 then [first, fresh 16] else if k = 2 then [first, fresh 32, fresh 16] else []
theorem first_okay : Okay first := ⟨fun x hx => by simp [first] at hx, by simp [first], rfl, fun x hx => by simp [first] at hx; subst hx; omega⟩
theorem fresh_okay (n : Nat) (h0 : 0 < n) (hn : n ≤ 64) : Okay (fresh n) :=
  ⟨fun x hx => by simp [fresh] at hx; omega, by simpa [fresh] using hn, by simp [fresh]; omega, fun x hx => by simp [fresh] at hx; omega⟩
theorem fresh_step {n g bw bs B : Nat} {w : World} (h0 : 0 < n) (h : TapAt w g bw bs n (List.replicate n 0) (List.replicate n 0) 0) (h1 : B ≤ g) (h2 : B ≤ bw) (h3 : B ≤ bs) : StepAt w B (.taps g bw bs) (fresh n) := by
  have e : (fresh n).W.length = n := by simp [fresh]
  refine ⟨h1, h2, h3, by rw [e]; exact h0, by simp [fresh], List.replicate n 0, 0, by rw [e]; exact h, fun i hi => ?_⟩
  rw [e] at hi ⊢
  rw [Nat.zero_add, Nat.mod_eq_of_lt hi]
  rfl
def FreshChain (k : Int) (w : World) (e : Ending) (w' : World) : Prop :=
  ∃ g v ls, e = .returned (.pointer (some ⟨g, 0, none⟩)) ∧ ChAt w' w.heap.size g v ls (start k) ∧ Below w.heap.size w w'
set_option maxHeartbeats 4000000 in
theorem New_none (k : Int) (h : k < 0 ∨ 2 < k) (w : World) : Calls Try.prog 8 #[.int .i64 k] w fun e w' => e = .returned (.pointer none) ∧ Drawn0 w w' := by
  have b0 : (k == 0) = false := by simp; omega
  have b1 : (k == 1) = false := by simp; omega
  have b2 : (k == 2) = false := by simp; omega
  clear h
  go_enter Try.func8, Try.ntmps8
  go_wp2
  go_ret
  exact ⟨rfl, Drawn0.refl _⟩
set_option maxHeartbeats 4000000 in
theorem New_0 (w : World) : Calls Try.prog 8 #[.int .i64 0] w (FreshChain 0 w) := by
  have HC : Aside0 (FreshChain 0 w (.returned (.pointer (some ⟨w.heap.size, 0, none⟩))) (w.alloc (.cells #[.slice none 0 0] 44))) :=
    ⟨w.heap.size, .slice none 0 0, [], rfl, ⟨blk_new w _, .inl ⟨rfl, rfl⟩, Nat.le_refl _, rfl, fun i l s h => by simp at h, List.nodup_nil, fun s hs => by simp [start] at hs, by simp⟩, (Below.refl _ _).alloc (Nat.le_refl _) _⟩
  go_enter Try.func8, Try.ntmps8
  go_wp2
  go_ret
  exact HC.out
theorem chain_mk (w3 : World) (B : Nat) (ls : List Lay) (st : List Step) (hB : B ≤ w3.heap.size) (hlen : st.length = ls.length) (h : ∀ (i : Nat) (l : Lay) (s : Step), ls[i]? = some l → st[i]? = some s → StepAt w3 B l s) (ha : (ls.flatMap Lay.blocks).Nodup) (ho : Okays st) (hf : ls.length ≤ 3) :
    ChAt ((w3.alloc (.cells (ls.map Lay.val).toArray 58)).alloc (.cells #[.slice (some ⟨w3.heap.size, 0, none⟩) ls.length ls.length] 44)) B (w3.heap.size + 1) (.slice (some ⟨w3.heap.size, 0, none⟩) ls.length ls.length) ls st ∧
    Below w3.heap.size w3 ((w3.alloc (.cells (ls.map Lay.val).toArray 58)).alloc (.cells #[.slice (some ⟨w3.heap.size, 0, none⟩) ls.length ls.length] 44)) := by
  have hrow := blk_new w3 (.cells (ls.map Lay.val).toArray 58)
  have s4 : (w3.alloc (.cells (ls.map Lay.val).toArray 58)).heap.size = w3.heap.size + 1 := by simp
  have hb34 : Below w3.heap.size w3 (w3.alloc (.cells (ls.map Lay.val).toArray 58)) := below_alloc (Below.refl _ _) _
  generalize w3.alloc (.cells (ls.map Lay.val).toArray 58) = w4 at hrow s4 hb34 ⊢
  have hb45 : Below w4.heap.size w4 (w4.alloc (.cells #[.slice (some ⟨w3.heap.size, 0, none⟩) ls.length ls.length] 44)) := below_alloc (Below.refl _ _) _
  have k35 : Kept w3 (w4.alloc (.cells #[.slice (some ⟨w3.heap.size, 0, none⟩) ls.length ls.length] 44)) (fun _ => False) := (Kept.of_below hb34 _).then_ (Kept.of_below hb45 (fun _ => False)) (fun _ h => h.elim)
  refine ⟨⟨?_, .inr ⟨w3.heap.size, rfl, blk_below hrow hb45, hB⟩, by omega, hlen, fun i l s h1 h2 => (h i l s h1 h2).kept k35 (fun _ _ h => h), ha, ho, hf⟩, hb34.trans (hb45.mono (by omega))⟩
  rw [← s4]
  exact blk_new w4 _
theorem tap_lt {w : World} {g bw bs n : Nat} {ws saw : List Int} {a : Nat} (h : TapAt w g bw bs n ws saw a) : g < w.heap.size ∧ bw < w.heap.size ∧ bs < w.heap.size := ⟨blk_lt h.hd, blk_lt h.wr, blk_lt h.sr⟩
theorem chain1 (w : World) (w3 : World) (g bw bs : Nat) (h : TapAt w3 g bw bs 16 (List.replicate 16 0) (List.replicate 16 0) 0) (h1 : w.heap.size + 1 ≤ g) (h2 : w.heap.size + 1 ≤ bw) (h3 : w.heap.size + 1 ≤ bs) (hb : Below (w.heap.size + 1) (w.alloc (.cells #[.int .i64 0] 47)) w3) :
    FreshChain 1 w (.returned (.pointer (some ⟨w3.heap.size + 1, 0, none⟩))) ((w3.alloc (.cells #[.iface 45 (.pointer (some ⟨w.heap.size, 0, none⟩)), .iface 48 (.pointer (some ⟨g, 0, none⟩))] 58)).alloc (.cells #[.slice (some ⟨w3.heap.size, 0, none⟩) 2 2] 44)) := by
  have hl : LastAt w3 w.heap.size 0 := (hb.block w.heap.size (by omega)).trans (blk_new w _)
  have hsz : w.heap.size + 1 ≤ w3.heap.size := by have := hb.size; simpa using this
  have hB : Below w.heap.size w w3 := ((Below.refl _ _).alloc (Nat.le_refl _) _).trans (hb.mono (by omega))
  have hne := h.ne
  obtain ⟨h4, h5⟩ := chain_mk w3 w.heap.size [.last w.heap.size, .taps g bw bs] (start 1) (by omega) rfl (fun i l s hl1 hs1 => by
    match i with
    | 0 =>
      simp [start] at hl1 hs1
      subst hl1 hs1
      exact ⟨rfl, Nat.le_refl _, 0, rfl, hl⟩
    | 1 =>
      simp [start] at hl1 hs1
      subst hl1 hs1
      exact fresh_step (by decide) h (by omega) (by omega) (by omega)
    | i + 2 => simp at hl1) (by simp [Lay.blocks]; omega) (fun s hs => by
    simp [start] at hs
    rcases hs with rfl | rfl
    · exact first_okay
    · exact fresh_okay 16 (by decide) (by decide)) (by simp)
  exact ⟨_, _, _, rfl, h4, hB.trans (h5.mono (by omega))⟩
theorem chain2 (w : World) (w3 w5 : World) (g bw bs g2 bw2 bs2 : Nat) (h : TapAt w3 g bw bs 32 (List.replicate 32 0) (List.replicate 32 0) 0) (h1 : w.heap.size + 1 ≤ g) (h2 : w.heap.size + 1 ≤ bw) (h3 : w.heap.size + 1 ≤ bs) (hb : Below (w.heap.size + 1) (w.alloc (.cells #[.int .i64 0] 47)) w3)
    (k : TapAt w5 g2 bw2 bs2 16 (List.replicate 16 0) (List.replicate 16 0) 0) (k1 : w3.heap.size ≤ g2) (k2 : w3.heap.size ≤ bw2) (k3 : w3.heap.size ≤ bs2) (kb : Below w3.heap.size w3 w5) :
    FreshChain 2 w (.returned (.pointer (some ⟨w5.heap.size + 1, 0, none⟩))) ((w5.alloc (.cells #[.iface 45 (.pointer (some ⟨w.heap.size, 0, none⟩)), .iface 48 (.pointer (some ⟨g, 0, none⟩)), .iface 48 (.pointer (some ⟨g2, 0, none⟩))] 58)).alloc (.cells #[.slice (some ⟨w5.heap.size, 0, none⟩) 3 3] 44)) := by
  have hl0 : LastAt w3 w.heap.size 0 := (hb.block w.heap.size (by omega)).trans (blk_new w _)
  have hl : LastAt w5 w.heap.size 0 := blk_below hl0 kb
  have h' : TapAt w5 g bw bs 32 (List.replicate 32 0) (List.replicate 32 0) 0 := h.kept (Kept.of_below kb (fun _ => False)) (fun h => h) (fun h => h) (fun h => h)
  have hsz : w.heap.size + 1 ≤ w3.heap.size := by have := hb.size; simpa using this
  have hsz2 := kb.size
  have hB : Below w.heap.size w w3 := ((Below.refl _ _).alloc (Nat.le_refl _) _).trans (hb.mono (by omega))
  have hB2 : Below w.heap.size w w5 := hB.trans (kb.mono (by omega))
  have hne := h.ne
  have kne := k.ne
  obtain ⟨t1, t2, t3⟩ := tap_lt h
  obtain ⟨h4, h5⟩ := chain_mk w5 w.heap.size [.last w.heap.size, .taps g bw bs, .taps g2 bw2 bs2] (start 2) (by omega) rfl (fun i l s hl1 hs1 => by
    match i with
    | 0 =>
      simp [start] at hl1 hs1
      subst hl1 hs1
      exact ⟨rfl, Nat.le_refl _, 0, rfl, hl⟩
    | 1 =>
      simp [start] at hl1 hs1
      subst hl1 hs1
      exact fresh_step (by decide) h' (by omega) (by omega) (by omega)
    | 2 =>
      simp [start] at hl1 hs1
      subst hl1 hs1
      exact fresh_step (by decide) k (by omega) (by omega) (by omega)
    | i + 3 => simp at hl1) (by simp [Lay.blocks]; omega) (fun s hs => by
    simp [start] at hs
    rcases hs with rfl | rfl | rfl
    · exact first_okay
    · exact fresh_okay 32 (by decide) (by decide)
    · exact fresh_okay 16 (by decide) (by decide)) (by simp)
  exact ⟨_, _, _, rfl, h4, hB2.trans (h5.mono (by omega))⟩
set_option maxHeartbeats 4000000 in
theorem New_1 (w : World) : Calls Try.prog 8 #[.int .i64 1] w (FreshChain 1 w) := by
  have HC := Aside0.mk (chain1 w)
  go_enter Try.func8, Try.ntmps8
  go_wp2_with fail
  refine (newTaps_any 16 (by decide) (by decide) _).mono ?_
  rintro e w3 ⟨g, bw, bs, rfl, h1, h2, h3, h4, h5⟩
  have HF := Aside0.mk (HC.out w3 g bw bs h1 (by simpa using h2) (by simpa using h3) (by simpa using h4) (by simpa using h5))
  clear h1 h2 h3 h4 h5 HC
  go_wp2
  go_ret
  exact HF.out
set_option maxHeartbeats 4000000 in
theorem New_2 (w : World) : Calls Try.prog 8 #[.int .i64 2] w (FreshChain 2 w) := by
  have HC := Aside0.mk (chain2 w)
  go_enter Try.func8, Try.ntmps8
  go_wp2_with fail
  refine (newTaps_any 32 (by decide) (by decide) _).mono ?_
  rintro e w3 ⟨g, bw, bs, rfl, h1, h2, h3, h4, h5⟩
  have HF := Aside0.mk (fun w5 g2 bw2 bs2 => HC.out w3 w5 g bw bs g2 bw2 bs2 h1 (by simpa using h2) (by simpa using h3) (by simpa using h4) (by simpa using h5))
  clear h1 h2 h3 h4 h5 HC
  go_wp2_with fail
  refine (newTaps_any 16 (by decide) (by decide) _).mono ?_
  rintro e w5 ⟨g2, bw2, bs2, rfl, h1, h2, h3, h4, h5⟩
  have HF2 := Aside0.mk (HF.out w5 g2 bw2 bs2 h1 h2 h3 h4 h5)
  clear h1 h2 h3 h4 h5 HF
  go_wp2
  go_ret
  exact HF2.out
theorem New_any (k : Int) (h0 : 0 ≤ k) (h2 : k ≤ 2) (w : World) : Calls Try.prog 8 #[.int .i64 k] w (FreshChain k w) := by
  have : k = 0 ∨ k = 1 ∨ k = 2 := by omega
  rcases this with rfl | rfl | rfl
  · exact New_0 w
  · exact New_1 w
  · exact New_2 w
end Go.Proofs.Yteljaikpechbmaa.Hand
