/- The plain law of layer 19: numbers that were encoded are decoded. -/
import Derived.Test.YtoologbaoifheaaModF
namespace Go.Proofs.Ytoologbaoifheaa.Math
open Go.RowKit Go.Proofs.Ytoologbaoifheaa.Hand Go.Proofs.YtoologbaoifheaaW.PrintWords Go.Proofs.YtoologbaoifheaaW.PrintLast Go.Proofs.YtoologbaoifheaaW.PrintMore
set_option linter.unusedVariables false
set_option linter.unusedSimpArgs false

theorem nest_put (f n t : Int) (E : Enc) (h : Fits E) (hw : 16777216 ≤ E.width) (hm : mayP f n t) : Nest E (putE f n t E) := (nest_part f n t E h hw hm).trans (put_fits f n t E h hw hm).2.2
theorem nest_low (u : Nat) : ∀ (f left : Nat) (E : Enc), Fits E → 16777216 ≤ E.width → Nest E (lowE u f left E)
  | 0, left, E, _, _ => Nest.refl E
  | f + 1, left, E, h, hw => by
    unfold lowE
    by_cases h0 : left = 0
    · rw [if_pos h0]
      exact Nest.refl E
    · rw [if_neg h0]
      have hb := bits_may _ _ (low_piece u left (by omega))
      rw [Int.toNat_natCast] at hb
      have h1 := put_fits _ 1 (2 ^ ((left - 1) % 16 + 1)) E h hw hb
      exact (nest_put _ _ _ E h hw hb).trans (nest_low u f _ _ h1.1 h1.2.1)
theorem nest_step {t : St} {m : Nat} (h : StOk t m) (n : Int) (hn : inB n) : Nest t.e (stepS t n).e := by
  have hm := h.cnt.part _ (class_lt n hn)
  have h1 := put_fits _ _ _ _ h.fit h.wid hm
  exact (nest_put _ _ _ _ h.fit h.wid hm).trans (nest_low _ _ _ _ h1.1 h1.2.1)
theorem nest_run (l : List Int) : ∀ (t : St) (m : Nat), StOk t m → (∀ n ∈ l, inB n) → Nest t.e (l.foldl stepS t).e := by
  induction l with
  | nil => intro t m _ _; exact Nest.refl _
  | cons x l ih =>
    intro t m h hl
    exact (nest_step h x (hl x (by simp))).trans (ih (stepS t x) (m + 129) (step_ok h x (hl x (by simp))) (fun n hn => hl n (by simp [hn])))
theorem sim_bits (n k : Int) (E F : Enc) (d : Dec) (h : Sim E d) (hf : Fits E) (hw : 16777216 ≤ E.width) (hb : bitsP n k) (hn : Nest (putE n 1 (2 ^ k.toNat) E) F) (he : Math.Ends F d.s) (hF : 1 ≤ F.width) :
    (bitsD k d).1 = n ∧ (bitsD k d).2.1 = 0 ∧ Sim (putE n 1 (2 ^ k.toNat) E) (bitsD k d).2.2 ∧ (bitsD k d).2.2.s = d.s := by
  obtain ⟨a1, a2, a3, a4, a5, a6⟩ := sim_take n 1 (2 ^ k.toNat) E F d h hf hw (bits_may n k hb) hn he hF
  have hpk : (peekD d (2 ^ k.toNat)).1 = n := by omega
  unfold bitsD
  rw [if_neg (by have := hb.1; have := hb.2.1; omega), if_neg (by rw [h.bad]; decide), hpk, if_pos a4]
  exact ⟨rfl, rfl, a5, a6⟩
theorem sim_low (u : Nat) (F : Enc) (hF : 1 ≤ F.width) : ∀ (f left v : Nat) (E : Enc) (d : Dec), left ≤ f → Sim E d → Fits E → 16777216 ≤ E.width → Nest (lowE u f left E) F → Math.Ends F d.s →
    ∃ d', lowD f left v d = some (v * 2 ^ left + u % 2 ^ left, d') ∧ Sim (lowE u f left E) d' ∧ d'.s = d.s
  | 0, left, v, E, d, hl, h, hf, hw, hn, he => by
    obtain rfl : left = 0 := by omega
    exact ⟨d, by simp [lowD, Nat.mod_one], h, rfl⟩
  | f + 1, left, v, E, d, hl, h, hf, hw, hn, he => by
    by_cases h0 : left = 0
    · subst h0
      have e : lowE u (f + 1) 0 E = E := rfl
      rw [e]
      exact ⟨d, by simp [lowD, Nat.mod_one], h, rfl⟩
    · have hp := low_piece u left (by omega)
      have e1 : lowE u (f + 1) left E = lowE u f (left - ((left - 1) % 16 + 1)) (putE ((u / 2 ^ (left - ((left - 1) % 16 + 1)) % 2 ^ ((left - 1) % 16 + 1) : Nat) : Int) 1 (2 ^ ((left - 1) % 16 + 1)) E) := by
        show (if left = 0 then E else _) = _
        rw [if_neg h0]
      have e2 : lowD (f + 1) left v d = if (bitsD ((left - 1) % 16 + 1 : Nat) d).2.1 = 0 then lowD f (left - ((left - 1) % 16 + 1)) (v * 2 ^ ((left - 1) % 16 + 1) + (bitsD ((left - 1) % 16 + 1 : Nat) d).1.toNat) (bitsD ((left - 1) % 16 + 1 : Nat) d).2.2 else none := by
        show (if left = 0 then some (v, d) else _) = _
        rw [if_neg h0]
      obtain ⟨W, hW⟩ : ∃ W, (left - 1) % 16 + 1 = W := ⟨_, rfl⟩
      obtain ⟨R, hR⟩ : ∃ R, left - W = R := ⟨_, rfl⟩
      have hWR : left = R + W := by omega
      rw [hW, hR] at e1 e2 hp
      have hm := bits_may _ _ hp
      rw [Int.toNat_natCast] at hm
      have h1 := put_fits _ 1 (2 ^ W) E hf hw hm
      rw [e1] at hn ⊢
      have hb := sim_bits _ _ E F d h hf hw hp (by rw [Int.toNat_natCast]; exact (nest_low u f R _ h1.1 h1.2.1).trans hn) he hF
      rw [Int.toNat_natCast] at hb
      obtain ⟨b1, b2, b3, b4⟩ := hb
      obtain ⟨d', c1, c2, c3⟩ := sim_low u F hF f R (v * 2 ^ W + u / 2 ^ R % 2 ^ W) _ _ (by omega) b3 h1.1 h1.2.1 hn (by rw [b4]; exact he)
      refine ⟨d', ?_, c2, c3.trans b4⟩
      rw [e2, if_pos b2, b1, Int.toNat_natCast, c1, hWR]
      congr 2
      rw [Nat.pow_add 2 R W, Nat.mod_mul, Nat.add_mul, Nat.mul_assoc, Nat.mul_comm (2 ^ W) (2 ^ R), Nat.mul_comm (u / 2 ^ R % 2 ^ W) (2 ^ R)]
      omega
theorem find_at (c : List Int) (hc : ∀ i, i < 42 → 1 ≤ c.getD i 0) (k : Nat) (hk : k < 42) (a : Int) (h0 : belowC c k ≤ a) (h1 : a < belowC c k + c.getD k 0) : ∀ (f x : Nat), x ≤ k → k ≤ x + f → findC c f x (a - belowC c x) = k
  | 0, x, hx, hf => by
    show x = k
    omega
  | f + 1, x, hx, hf => by
    unfold findC
    by_cases e : x = k
    · subst e
      rw [if_neg (by omega)]
    · have hm := below_mono c hc (k - (x + 1)) (x + 1) (by omega)
      rw [show x + 1 + (k - (x + 1)) = k by omega] at hm
      have hs : belowC c (x + 1) = belowC c x + c.getD x 0 := rfl
      rw [if_pos ⟨by omega, by omega⟩, show a - belowC c x - c.getD x 0 = a - belowC c (x + 1) by omega]
      exact find_at c hc k hk a h0 h1 f (x + 1) (by omega) (by omega)
theorem blenF_in : ∀ (f u : Nat), u < 2 ^ f → u < 2 ^ blenF f u ∧ (u ≠ 0 → blenF f u ≠ 0 ∧ 2 ^ (blenF f u - 1) ≤ u)
  | 0, u, h => ⟨by simpa [blenF] using h, fun h0 => absurd (by simpa using h) h0⟩
  | f + 1, u, h => by
    unfold blenF
    by_cases h0 : u = 0
    · rw [if_pos h0]
      exact ⟨by omega, fun h1 => absurd h0 h1⟩
    · rw [if_neg h0]
      obtain ⟨a, b⟩ := blenF_in f (u / 2) (by rw [Nat.pow_succ] at h; omega)
      refine ⟨by rw [Nat.pow_succ]; omega, fun _ => ⟨by omega, ?_⟩⟩
      rw [Nat.add_sub_cancel]
      by_cases h1 : u / 2 = 0
      · have : blenF f (u / 2) = 0 := by
          rw [h1]
          cases f with
          | zero => rfl
          | succ f => rfl
        rw [this]
        omega
      · obtain ⟨c, d⟩ := b h1
        obtain ⟨m, hm⟩ : ∃ m, blenF f (u / 2) = m + 1 := ⟨blenF f (u / 2) - 1, by omega⟩
        rw [hm] at d ⊢
        rw [Nat.add_sub_cancel] at d
        rw [Nat.pow_succ]
        omega
theorem num_back {t : St} {m : Nat} (h : StOk t m) (n : Int) (hn : inB n) (F : Enc) (hF : 1 ≤ F.width) (d : Dec) (hS : Sim t.e d) (hN : Nest (stepS t n).e F) (he : Math.Ends F d.s) :
    ∃ d', numD ⟨d, t.c, t.s⟩ = some (n, ⟨d', (stepS t n).c, (stepS t n).s⟩) ∧ Sim (stepS t n).e d' ∧ d'.s = d.s := by
  have hk := class_lt n hn
  obtain ⟨hu1, hu2⟩ := numU_lt n hn
  have hst : stepS t n = ⟨lowE (numU n) 42 (blen (numU n) - 1) (putE (belowC t.c (blen (numU n))) (t.c.getD (blen (numU n)) 0) t.s t.e), (sawC t.c t.s (blen (numU n))).1, (sawC t.c t.s (blen (numU n))).2⟩ := rfl
  obtain ⟨g1, g2⟩ := blenF_in 64 (numU n) (by omega)
  have hfb := (fold_back n (by unfold inB at hn; omega) (by unfold inB at hn; omega)).1
  rw [hu2] at hfb
  rw [hst] at hN ⊢
  change numU n < 2 ^ blen (numU n) at g1
  change numU n ≠ 0 → blen (numU n) ≠ 0 ∧ 2 ^ (blen (numU n) - 1) ≤ numU n at g2
  generalize numU n = u at hk hu1 hu2 g1 g2 hfb hN
  obtain ⟨k, hkk⟩ : ∃ k, blen u = k := ⟨_, rfl⟩
  rw [hkk] at hk g1 g2 hN ⊢
  have hm := h.cnt.part k hk
  have h1 := put_fits _ _ _ _ h.fit h.wid hm
  have hN : Nest (lowE u 42 (k - 1) (putE (belowC t.c k) (t.c.getD k 0) t.s t.e)) F := hN
  obtain ⟨a1, a2, a3, a4, a5, a6⟩ := sim_take _ _ _ t.e F d hS h.fit h.wid hm ((nest_low u 42 (k - 1) _ h1.1 h1.2.1).trans hN) he hF
  have hcl : classD ⟨d, t.c, t.s⟩ = k := by
    unfold classD
    have := find_at t.c h.cnt.one k hk (peekD d t.s).1 a2 a3 42 0 (by omega) (by omega)
    simpa [belowC] using this
  obtain ⟨d', c1, c2, c3⟩ := sim_low u F hF 42 (k - 1) (if k = 0 then 0 else 1) _ _ (by omega) a5 h1.1 h1.2.1 hN (by rw [a6]; exact he)
  refine ⟨d', ?_, c2, c3.trans a6⟩
  unfold numD
  rw [hcl]
  show (if (peekD d t.s).2 = 0 then (if (takeD (belowC t.c k) (t.c.getD k 0) t.s d).1 = 0 then _ else none) else none) = _
  rw [if_pos a1, if_pos a4, c1, Option.map_some]
  have hv : (if k = 0 then 0 else 1) * 2 ^ (k - 1) + u % 2 ^ (k - 1) = u := by
    by_cases k0 : k = 0
    · subst k0
      simp at g1
      subst g1
      rfl
    · rw [if_neg k0]
      have hu0 : u ≠ 0 := by
        intro e
        subst e
        exact k0 (by rw [← hkk]; rfl)
      have := (g2 hu0).2
      obtain ⟨j, rfl⟩ : ∃ j, k = j + 1 := ⟨k - 1, by omega⟩
      rw [Nat.add_sub_cancel] at this ⊢
      rw [Nat.pow_succ] at g1
      rw [Nat.mod_eq_sub_mod this, Nat.mod_eq_of_lt (by omega)]
      omega
  show some (unfoldM (((if k = 0 then 0 else 1) * 2 ^ (k - 1) + u % 2 ^ (k - 1) : Nat) : Int), _) = _
  rw [hv, hfb]
theorem decs_back (F : Enc) (hF : 1 ≤ F.width) (l : List Int) : ∀ (t : St) (m : Nat) (d : Dec) (out : List Int), StOk t m → (∀ n ∈ l, inB n) → Sim t.e d → Nest (l.foldl stepS t).e F → Math.Ends F d.s →
    ∃ d', decs l.length ⟨d, t.c, t.s⟩ out = some (out ++ l, ⟨d', (l.foldl stepS t).c, (l.foldl stepS t).s⟩) ∧ Sim (l.foldl stepS t).e d' ∧ d'.s = d.s := by
  induction l with
  | nil => intro t m d out _ _ hS _ _; exact ⟨d, by simp [decs], hS, rfl⟩
  | cons x l ih =>
    intro t m d out h hl hS hN he
    have hx := hl x (by simp)
    have hl2 : ∀ n ∈ l, inB n := fun n hn => hl n (by simp [hn])
    have hok := step_ok h x hx
    rw [List.foldl_cons] at hN ⊢
    obtain ⟨d1, a1, a2, a3⟩ := num_back h x hx F hF d hS ((nest_run l _ _ hok hl2).trans hN) he
    obtain ⟨d', b1, b2, b3⟩ := ih (stepS t x) (m + 129) d1 (out ++ [x]) hok hl2 a2 hN (by rw [a3]; exact he)
    refine ⟨d', ?_, b2, b3.trans a3⟩
    show (match numD ⟨d, t.c, t.s⟩ with | none => none | some (x, r') => decs l.length r' (out ++ [x])) = _
    rw [a1]
    show decs l.length _ (out ++ [x]) = _
    rw [b1, List.append_assoc]
    rfl
/-- The first numbers of a list that was encoded, decoded; the bytes that they had. -/
theorem dec_back (l1 l2 : List Int) (h : ∀ n ∈ l1 ++ l2, inB n) (hl : l1.length ≤ 16777216) (behind : ByteArray) :
    decF (finishS (runS (l1 ++ l2)).e ++ behind) (l1.length : Nat) = (l1, ((sizeE (runS l1).e + 4 : Nat) : Int), 0) ∧ sizeE (runS l1).e ≤ sizeE (runS (l1 ++ l2)).e := by
  have ho := run_ok (l1 ++ l2) h
  have h1 : ∀ n ∈ l1, inB n := fun n hn => h n (by simp [hn])
  have h2 : ∀ n ∈ l2, inB n := fun n hn => h n (by simp [hn])
  have ho1 := run_ok l1 h1
  have hr : runS (l1 ++ l2) = l2.foldl stepS (runS l1) := by simp [runS]
  have hn1 : Nest (runS l1).e (runS (l1 ++ l2)).e := by rw [hr]; exact nest_run l2 _ _ ho1 h2
  have hn0 : Nest newE (runS l1).e := nest_run l1 _ _ start_ok h1
  have hft := ho.fit
  generalize (runS (l1 ++ l2)).e = F at hft hn1 ⊢
  obtain ⟨hs, hss⟩ := start_sim F hft (hn0.trans hn1) _ (finish_ends F hft behind)
  obtain ⟨d', a1, a2, a3⟩ := decs_back F hft.good.wid0 l1 ⟨newE, ones, 42⟩ 1 (ofD (finishS F ++ behind)) [] start_ok h1 hs hn1 (by rw [hss]; exact finish_ends F hft behind)
  constructor
  · unfold decF
    rw [if_neg (by omega), if_neg (by rw [hs.bad]; decide), Int.toNat_natCast, a1]
    show (([] : List Int) ++ l1, d'.pos, (0 : Int)) = _
    rw [List.nil_append, a2.pos]
    rfl
  · obtain ⟨j, hj, _⟩ := hn1
    omega
theorem enc_size (l : List Int) (h : ∀ n ∈ l, inB n) : (finishS (runS l).e).size = sizeE (runS l).e + 4 := finish_size _ (run_ok l h).fit
end Go.Proofs.Ytoologbaoifheaa.Math
