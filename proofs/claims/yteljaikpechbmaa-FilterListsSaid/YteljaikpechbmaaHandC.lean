/- Contracts of layer 17, proved by hand: a filter of taps sees a number. -/
import Derived.Test.YteljaikpechbmaaHandB
namespace Go.Proofs.Yteljaikpechbmaa.Hand
open Go.RowKit Go.Proofs.Yteljaikpechbmaa.Q Go.Proofs.YteljaikpechbmaaW.PrintWords Go.Proofs.YteljaikpechbmaaW.PrintLast Go.Proofs.YteljaikpechbmaaW.PrintMore
set_option linter.unusedVariables false
set_option linter.unusedSimpArgs false

theorem TapAt.ne {w : World} {g bw bs n : Nat} {ws saw : List Int} {a : Nat} (h : TapAt w g bw bs n ws saw a) : g ≠ bw ∧ g ≠ bs ∧ bw ≠ bs :=
  ⟨blk_ne h.hd h.wr (by decide), blk_ne h.hd h.sr (by decide), blk_ne h.wr h.sr (by decide)⟩
theorem TapAt.heap {w w' : World} {g bw bs n : Nat} {ws saw : List Int} {a : Nat} (h : TapAt w g bw bs n ws saw a) (e : w'.heap = w.heap) : TapAt w' g bw bs n ws saw a :=
  ⟨by rw [e]; exact h.hd, by unfold Row; rw [e]; exact h.wr, by unfold Row; rw [e]; exact h.sr, h.wl, h.sl, h.al⟩
theorem TapAt.kept {w w' : World} {g bw bs n : Nat} {ws saw : List Int} {a : Nat} {S : Nat → Prop} (h : TapAt w g bw bs n ws saw a) (k : Kept w w' S) (h1 : ¬ S g) (h2 : ¬ S bw) (h3 : ¬ S bs) : TapAt w' g bw bs n ws saw a :=
  ⟨blk_kept h.hd k h1, blk_kept h.wr k h2, blk_kept h.sr k h3, h.wl, h.sl, h.al⟩
theorem TapAt.weight {w : World} {g bw bs n : Nat} {ws saw : List Int} {a : Nat} (h : TapAt w g bw bs n ws saw a) (k : Nat) (y : Int) : TapAt (w.setCell ⟨bw, k, none⟩ (.int .i16 y)) g bw bs n (ws.set k y) saw a := by
  obtain ⟨n1, n2, n3⟩ := h.ne
  exact ⟨blk_far h.hd (p := ⟨bw, k, none⟩) n1 _, h.wr.put k y, blk_far h.sr (p := ⟨bw, k, none⟩) (Ne.symm n3) _, by rw [List.length_set]; exact h.wl, h.sl, h.al⟩
theorem TapAt.turn {w : World} {g bw bs n : Nat} {ws saw : List Int} {a : Nat} (h : TapAt w g bw bs n ws saw a) (b : Nat) (hb : b < n) : TapAt (w.setCell ⟨g, 2, none⟩ (.int .i64 b)) g bw bs n ws saw b := by
  obtain ⟨n1, n2, n3⟩ := h.ne
  exact ⟨blk_put h.hd 2 _ rfl, blk_far h.wr (p := ⟨g, 2, none⟩) (Ne.symm n1) _, blk_far h.sr (p := ⟨g, 2, none⟩) (Ne.symm n2) _, h.wl, h.sl, hb⟩
theorem TapAt.newest {w : World} {g bw bs n : Nat} {ws saw : List Int} {a : Nat} (h : TapAt w g bw bs n ws saw a) (k : Nat) (y : Int) : TapAt (w.setCell ⟨bs, k, none⟩ (.int .i64 y)) g bw bs n ws (saw.set k y) a := by
  obtain ⟨n1, n2, n3⟩ := h.ne
  exact ⟨blk_far h.hd (p := ⟨bs, k, none⟩) n2 _, blk_far h.wr (p := ⟨bs, k, none⟩) n3 _, h.sr.put k y, h.wl, by rw [List.length_set]; exact h.sl, h.al⟩
/-- The weights behind so many rounds. -/
def wsee (ws : List Int) (f : Nat → Int) (l : Int) : Nat → List Int
  | 0 => ws
  | k + 1 => (wsee ws f l k).set k (IntKind.i16.wrap (ws.getD k 0 + 8 * sgn l * sgn (f k)))
theorem wsee_length (ws : List Int) (f : Nat → Int) (l : Int) : ∀ k, (wsee ws f l k).length = ws.length
  | 0 => rfl
  | k + 1 => by rw [wsee, List.length_set, wsee_length ws f l k]
theorem wsee_at (ws : List Int) (f : Nat → Int) (l : Int) : ∀ k j, k ≤ j → (wsee ws f l k).getD j 0 = ws.getD j 0
  | 0, j, _ => rfl
  | k + 1, j, h => by
    rw [wsee, List.getD_eq_getElem?_getD, List.getElem?_set_ne (by omega), ← List.getD_eq_getElem?_getD, wsee_at ws f l k j (by omega)]
/-- What a call of 'see' leaves as it was. -/
structure Saw (B : Nat) (S : Nat → Prop) (w w' : World) : Prop where
  below : Below B w w'
  kept : Kept w w' S
theorem Saw.refl (B : Nat) (S : Nat → Prop) (w : World) : Saw B S w w := ⟨Below.refl _ _, Kept.refl _ _⟩
theorem Saw.drawn {B : Nat} {S : Nat → Prop} {w w1 w2 : World} (h : Saw B S w w1) (d : Drawn0 w1 w2) : Saw B S w w2 := by
  obtain ⟨m, rfl⟩ := d
  exact ⟨pw_below_drewN h.below m, h.kept.drewN m⟩
theorem Saw.drew {B : Nat} {S : Nat → Prop} {w w1 : World} (h : Saw B S w w1) : Saw B S w w1.drew := ⟨below_drew h.below, h.kept.drew⟩
theorem Saw.drewN {B : Nat} {S : Nat → Prop} {w w1 : World} (h : Saw B S w w1) (m : Nat) : Saw B S w (w1.drewN m) := ⟨pw_below_drewN h.below m, h.kept.drewN m⟩
theorem Saw.set {B : Nat} {S : Nat → Prop} {w w1 : World} (h : Saw B S w w1) (b j : Nat) (hB : B ≤ b) (hS : S b) (u : Value) : Saw B S w (w1.setCell ⟨b, j, none⟩ u) :=
  ⟨h.below.setCell hB u, h.kept.setCell (p := ⟨b, j, none⟩) (.inl hS) u⟩
theorem Saw.trans {B : Nat} {S : Nat → Prop} {w w1 w2 : World} (h : Saw B S w w1) (k : Saw B S w1 w2) : Saw B S w w2 := ⟨h.below.trans k.below, h.kept.then_ k.kept (fun _ hs => .inl hs)⟩
theorem Saw.mono {B : Nat} {S S' : Nat → Prop} {w w1 : World} (h : Saw B S w w1) (hs : ∀ k, S k → S' k) : Saw B S' w w1 := ⟨h.below, h.kept.mono hs⟩
def Three (g bw bs : Nat) (k : Nat) : Prop := k = g ∨ k = bw ∨ k = bs
set_option maxHeartbeats 8000000 in
set_option maxRecDepth 100000 in
theorem see_any (g bw bs n : Nat) (ws saw : List Int) (a : Nat) (hn : n ≤ 64) (hw : In16 ws) (x l : Int) (l0 : -9223372036854775808 ≤ l) (l1 : l ≤ 9223372036854775807) (hs : ∀ k, -9223372036854775808 ≤ saw.getD k 0 ∧ saw.getD k 0 ≤ 9223372036854775807) (B : Nat) (B1 : B ≤ g) (B2 : B ≤ bw) (B3 : B ≤ bs) (w : World) (h : TapAt w g bw bs n ws saw a) :
    Calls Try.prog 51 #[.pointer (some ⟨g, 0, none⟩), .int .i64 x, .int .i64 l] w fun e w' => e = .returned (.tuple #[]) ∧ TapAt w' g bw bs n (wsee ws (fun i => saw.getD ((a + i) % n) 0) l n) (saw.set ((a + n - 1) % n) x) ((a + n - 1) % n) ∧ Saw B (Three g bw bs) w w' := by
  have c0 : w.cell? ⟨g, 0, none⟩ = some (.slice (some ⟨bw, 0, none⟩) n n) := blk_cell h.hd 0
  have H := Aside0.mk h
  have HW := Aside0.mk hw
  have HS := Aside0.mk hs
  clear h hw hs
  obtain ⟨f, hf⟩ : ∃ f : Nat → Int, (fun i => saw.getD ((a + i) % n) 0) = f := ⟨_, rfl⟩
  rw [hf]
  have HF := Aside0.mk (fun i => congrFun hf i)
  clear hf
  go_enter Try.func51, Try.ntmps51
  go_wp2
  go_loopw [12] (fun i wr => ∃ k : Nat, k ≤ n ∧ i = .int .i64 k ∧ Aside0 (TapAt wr g bw bs n (wsee ws f l k) saw a) ∧ Aside0 (Saw B (Three g bw bs) w wr)) (fun i _ => n - (intOf i).toNat)
  case atStart => exact ⟨0, Nat.zero_le _, rfl, H, ⟨Saw.refl _ _ _⟩⟩
  case round =>
    obtain ⟨k, hk, rfl, HT, HM⟩ := hrel
    clear c0
    by_cases hlt : k < n
    · have i0 : (0 : Int) ≤ (k : Int) := by omega
      have i1 : (k : Int) < (n : Int) := by omega
      have c0 : wr.cell? ⟨g, 0, none⟩ = some (.slice (some ⟨bw, 0, none⟩) n n) := blk_cell HT.out.hd 0
      have cw := HT.out.wr.cell k (by rw [HT.out.wl]; exact hlt)
      have fw := HT.out.wr.free k
      have HN : Aside0 (∀ W : World, W.heap = wr.heap → Calls Try.prog 52 #[.pointer (some ⟨g, 0, none⟩), .int .i64 k] W fun e w' => e = .returned (.int .i64 (saw.getD ((a + k) % n) 0)) ∧ Drawn0 W w') := ⟨fun W hW => number_any g bw bs n _ saw a k hlt hn W (HT.out.heap hW)⟩
      have hfk := HF.out k
      have hx := HS.out ((a + k) % n)
      rw [hfk] at HN hx
      rw [wsee_at ws f l k k (Nat.le_refl _)] at cw
      have hs1 : wsee ws f l (k + 1) = (wsee ws f l k).set k (IntKind.i16.wrap (ws.getD k 0 + 8 * sgn l * sgn (f k))) := rfl
      have b1 := HW.out.at k
      obtain ⟨y1, y2⟩ := b1
      have hg1 := sgn_in l
      have hg2 := sgn_in (f k)
      obtain ⟨x1, x2⟩ := hx
      have HS1 := Aside0.mk (fun W => sign_any l l0 l1 W)
      have HS2 := Aside0.mk (fun W => sign_any (f k) x1 x2 W)
      generalize ws.getD k 0 = y at hs1 cw y1 y2
      generalize sgn l = sl at hs1 hg1 HS1
      generalize sgn (f k) = sx at hs1 hg2 HS2
      generalize f k = z at HN HS2
      obtain ⟨p, hp⟩ : ∃ p, 8 * sl * sx = p := ⟨_, rfl⟩
      have ep : IntKind.i16.wrap (8 * sl * sx) = p := by
        rw [← hp]
        rcases hg1 with rfl | rfl | rfl <;> rcases hg2 with rfl | rfl | rfl <;> decide
      have es : IntKind.i16.wrap (8 * sl) = 8 * sl := by rcases hg1 with rfl | rfl | rfl <;> decide
      have p1 : -8 ≤ p ∧ p ≤ 8 := by
        rw [← hp]
        rcases hg1 with rfl | rfl | rfl <;> rcases hg2 with rfl | rfl | rfl <;> decide
      obtain ⟨p1, p2⟩ := p1
      rw [hp] at hs1
      have HS3 := Aside0.mk hs1
      have HT1 := Aside0.mk (fun (W : World) (hW : W.heap = wr.heap) (v : Int) => (HT.out.heap hW).weight k v)
      clear hs1 hfk hp hg1 hg2 x1 x2
      go_wp2
      go_region_with ((first | (go_at_call 53; (with_reducible refine (HS1.out _).mono ?_); rintro e w3 ⟨rfl, rfl⟩) | (go_at_call 53; (with_reducible refine (HS2.out _).mono ?_); rintro e w3 ⟨rfl, rfl⟩) | (go_at_call 52; (with_reducible refine (HN.out _ ?_).mono ?_); rfl; rintro e w3 ⟨rfl, ⟨m3, rfl⟩⟩)))
      all_goals
        have hE := HT1.out (wr.drewN (1 + m3)) rfl (IntKind.i16.wrap (y + p))
        have hM := (HM.out.drewN (1 + m3)).set bw k B2 (.inr (.inl rfl)) (.int .i16 (IntKind.i16.wrap (y + p)))
        rw [← HS3.out] at hE
        have HE2 := Aside0.mk hE
        have HM2 := Aside0.mk hM
        clear hE hM c0 cw fw
        go_wp2
        go_roundw
        case rel => exact ⟨k + 1, by omega, by go_num, HE2, HM2⟩
        case measure => simp [intOf]; omega
    · obtain rfl : k = n := by omega
      have c1 : wr.cell? ⟨g, 1, none⟩ = some (.slice (some ⟨bs, 0, none⟩) k k) := blk_cell HT.out.hd 1
      have c2 : wr.cell? ⟨g, 2, none⟩ = some (.int .i64 a) := blk_cell HT.out.hd 2
      have f2 := blk_frozen HT.out.hd 2
      have hal := HT.out.al
      have hlt2 : (a + k - 1) % k < k := Nat.mod_lt _ (by omega)
      have e1 : IntKind.i64.wrap ((a : Int) + (k : Int)) = (a : Int) + (k : Int) := by rw [IntKind.wrap_i64]; omega
      have e2 : IntKind.i64.wrap ((a : Int) + (k : Int) - 1) = ((a + k - 1 : Nat) : Int) := by rw [IntKind.wrap_i64]; omega
      have e3 : ((a + k - 1 : Nat) : Int).tmod (k : Int) = (((a + k - 1) % k : Nat) : Int) := by rw [Int.tmod_eq_emod_of_nonneg (by omega)]; exact (Int.natCast_emod _ _).symm
      have n0 : ¬ (k : Int) = 0 := by omega
      have n1 : ¬ k = 0 := by omega
      have e4 : ((a + k - 1 : Nat) : Int) % (k : Int) = (((a + k - 1) % k : Nat) : Int) := (Int.natCast_emod _ _).symm
      have HT2 := Aside0.mk (fun (W : World) (hW : W.heap = wr.heap) => ((HT.out.heap hW).turn ((a + k - 1) % k) hlt2))
      obtain ⟨q, hq⟩ : ∃ q, (a + k - 1) % k = q := ⟨_, rfl⟩
      rw [hq] at hlt2 e3 e4 HT2
      have HQ := Aside0.mk hq
      clear hq
      generalize a + k - 1 = q2 at e2 e3 e4
      go_wp2
      go_still_tail 20, (by kernel_rfl)
      have HT3 := Aside0.mk (HT2.out wr.drew rfl)
      have HM3 := Aside0.mk (HM.out.drew.set g 2 B1 (.inl rfl) (.int .i64 q))
      have c2' : wr.drew.cell? ⟨g, 2, none⟩ = some (.int .i64 a) := c2
      have f2' : wr.drew.frozen? ⟨g, 2, none⟩ = false := f2
      clear c1 c2 f2 HT2
      change wpList _ _ _ _ _ wr.drew
      generalize wr.drew = wz at HT3 HM3 c2' f2' ⊢
      go_wp2
      generalize wz.setCell ⟨g, 2, none⟩ (.int .i64 q) = wy at HT3 HM3 ⊢
      have c1 : wy.cell? ⟨g, 1, none⟩ = some (.slice (some ⟨bs, 0, none⟩) k k) := blk_cell HT3.out.hd 1
      have c2 : wy.cell? ⟨g, 2, none⟩ = some (.int .i64 q) := blk_cell HT3.out.hd 2
      have cs := HT3.out.sr.cell q (by rw [HT3.out.sl]; exact hlt2)
      have fs := HT3.out.sr.free q
      have q0 : (0 : Int) ≤ (q : Int) := by omega
      have q1 : (q : Int) < (k : Int) := by omega
      clear c2' f2' e1 e2 e3 e4
      go_still_tail 10, (by kernel_rfl)
      have HT4 := Aside0.mk ((HT3.out.heap (w' := wy.drew) rfl).newest q x)
      have HM4 := Aside0.mk (HM3.out.drew.set bs q B3 (.inr (.inr rfl)) (.int .i64 x))
      have fs' : wy.drew.frozen? ⟨bs, q, none⟩ = false := fs
      have cs' : wy.drew.cell? ⟨bs, q, none⟩ = some (.int .i64 (saw.getD q 0)) := cs
      clear c1 c2 cs fs
      change wpList _ _ _ _ _ wy.drew
      generalize wy.drew = wv at HT4 HM4 cs' fs' ⊢
      go_wp2
      refine bodyPost_end (results_none rfl _ _ _) rfl ?_
      refine ⟨rfl, ?_, HM4.out⟩
      rw [HQ.out]
      exact HT4.out
end Go.Proofs.Yteljaikpechbmaa.Hand
