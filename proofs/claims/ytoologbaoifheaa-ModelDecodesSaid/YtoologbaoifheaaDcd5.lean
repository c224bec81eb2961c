/- Texts of this claim's proof, laid behind each other: The plain law of layer 19: numbers that were encoded are decoded; The plain law of layer 19: a thousand noughts have few bytes; Contracts of layer 19, proved by hand: awake; Contracts of layer 19, proved by hand: ModelFolds, ModelBack, ModelHeads; Contracts of layer 19, proved by hand: the reference's counts; Contracts of layer 19, proved by hand: the reference's classes, pieces; a class is seen; Contracts of layer 19, proved by hand: the reference's decoder -/
import Derived.Laws.MakeOwn
import Derived.Test.YtoologbaoifheaaDcd4
/- The plain law of layer 19: numbers that were encoded are decoded. -/
namespace Go.Proofs.Ytoologbaoifheaa.Math
open Go.RowKit Go.Proofs.Ytoologbaoifheaa.Hand Go.Proofs.YtoologbaoifheaaW.PrintWords Go.Proofs.YtoologbaoifheaaW.PrintLast Go.Proofs.YtoologbaoifheaaW.PrintMore
set_option linter.unusedVariables false
set_option linter.unusedSimpArgs false

theorem nest_put (f n t : Int) (E : Enc) (h : Fits E) (hw : 16777216 ≤ E.width) (hm : mayP f n t) : Nest E (putE f n t E) := (nest_part f n t E h hw hm).trans (put_fits f n t E h hw hm).2.2
theorem nest_low (u : Nat) : ∀ (f left : Nat) (E : Enc), Fits E → 16777216 ≤ E.width → Nest E (lowE u f left E)
  | 0, left, E, _, _ => Nest.refl E
  | f + 1, left, E, h, hw => by
    unfold lowE
    by_cases h0 : left = 0
    · rw [if_pos h0]
      exact Nest.refl E
    · rw [if_neg h0]
      have hb := bits_may _ _ (low_piece u left (by omega))
      rw [Int.toNat_natCast] at hb
      have h1 := put_fits _ 1 (2 ^ ((left - 1) % 16 + 1)) E h hw hb
      exact (nest_put _ _ _ E h hw hb).trans (nest_low u f _ _ h1.1 h1.2.1)
theorem nest_step {t : St} {m : Nat} (h : StOk t m) (n : Int) (hn : inB n) : Nest t.e (stepS t n).e := by
  have hm := h.cnt.part _ (class_lt n hn)
  have h1 := put_fits _ _ _ _ h.fit h.wid hm
  exact (nest_put _ _ _ _ h.fit h.wid hm).trans (nest_low _ _ _ _ h1.1 h1.2.1)
theorem nest_run (l : List Int) : ∀ (t : St) (m : Nat), StOk t m → (∀ n ∈ l, inB n) → Nest t.e (l.foldl stepS t).e := by
  induction l with
  | nil => intro t m _ _; exact Nest.refl _
  | cons x l ih =>
    intro t m h hl
    exact (nest_step h x (hl x (by simp))).trans (ih (stepS t x) (m + 129) (step_ok h x (hl x (by simp))) (fun n hn => hl n (by simp [hn])))
theorem sim_bits (n k : Int) (E F : Enc) (d : Dec) (h : Sim E d) (hf : Fits E) (hw : 16777216 ≤ E.width) (hb : bitsP n k) (hn : Nest (putE n 1 (2 ^ k.toNat) E) F) (he : Math.Ends F d.s) (hF : 1 ≤ F.width) :
    (bitsD k d).1 = n ∧ (bitsD k d).2.1 = 0 ∧ Sim (putE n 1 (2 ^ k.toNat) E) (bitsD k d).2.2 ∧ (bitsD k d).2.2.s = d.s := by
  obtain ⟨a1, a2, a3, a4, a5, a6⟩ := sim_take n 1 (2 ^ k.toNat) E F d h hf hw (bits_may n k hb) hn he hF
  have hpk : (peekD d (2 ^ k.toNat)).1 = n := by omega
  unfold bitsD
  rw [if_neg (by have := hb.1; have := hb.2.1; omega), if_neg (by rw [h.bad]; decide), hpk, if_pos a4]
  exact ⟨rfl, rfl, a5, a6⟩
theorem sim_low (u : Nat) (F : Enc) (hF : 1 ≤ F.width) : ∀ (f left v : Nat) (E : Enc) (d : Dec), left ≤ f → Sim E d → Fits E → 16777216 ≤ E.width → Nest (lowE u f left E) F → Math.Ends F d.s →
    ∃ d', lowD f left v d = some (v * 2 ^ left + u % 2 ^ left, d') ∧ Sim (lowE u f left E) d' ∧ d'.s = d.s
  | 0, left, v, E, d, hl, h, hf, hw, hn, he => by
    obtain rfl : left = 0 := by omega
    exact ⟨d, by simp [lowD, Nat.mod_one], h, rfl⟩
  | f + 1, left, v, E, d, hl, h, hf, hw, hn, he => by
    by_cases h0 : left = 0
    · subst h0
      have e : lowE u (f + 1) 0 E = E := rfl
      rw [e]
      exact ⟨d, by simp [lowD, Nat.mod_one], h, rfl⟩
    · have hp := low_piece u left (by omega)
      have e1 : lowE u (f + 1) left E = lowE u f (left - ((left - 1) % 16 + 1)) (putE ((u / 2 ^ (left - ((left - 1) % 16 + 1)) % 2 ^ ((left - 1) % 16 + 1) : Nat) : Int) 1 (2 ^ ((left - 1) % 16 + 1)) E) := by
        show (if left = 0 then E else _) = _
        rw [if_neg h0]
      have e2 : lowD (f + 1) left v d = if (bitsD ((left - 1) % 16 + 1 : Nat) d).2.1 = 0 then lowD f (left - ((left - 1) % 16 + 1)) (v * 2 ^ ((left - 1) % 16 + 1) + (bitsD ((left - 1) % 16 + 1 : Nat) d).1.toNat) (bitsD ((left - 1) % 16 + 1 : Nat) d).2.2 else none := by
        show (if left = 0 then some (v, d) else _) = _
        rw [if_neg h0]
      obtain ⟨W, hW⟩ : ∃ W, (left - 1) % 16 + 1 = W := ⟨_, rfl⟩
      obtain ⟨R, hR⟩ : ∃ R, left - W = R := ⟨_, rfl⟩
      have hWR : left = R + W := by omega
      rw [hW, hR] at e1 e2 hp
      have hm := bits_may _ _ hp
      rw [Int.toNat_natCast] at hm
      have h1 := put_fits _ 1 (2 ^ W) E hf hw hm
      rw [e1] at hn ⊢
      have hb := sim_bits _ _ E F d h hf hw hp (by rw [Int.toNat_natCast]; exact (nest_low u f R _ h1.1 h1.2.1).trans hn) he hF
      rw [Int.toNat_natCast] at hb
      obtain ⟨b1, b2, b3, b4⟩ := hb
      obtain ⟨d', c1, c2, c3⟩ := sim_low u F hF f R (v * 2 ^ W + u / 2 ^ R % 2 ^ W) _ _ (by omega) b3 h1.1 h1.2.1 hn (by rw [b4]; exact he)
      refine ⟨d', ?_, c2, c3.trans b4⟩
      rw [e2, if_pos b2, b1, Int.toNat_natCast, c1, hWR]
      congr 2
      rw [Nat.pow_add 2 R W, Nat.mod_mul, Nat.add_mul, Nat.mul_assoc, Nat.mul_comm (2 ^ W) (2 ^ R), Nat.mul_comm (u / 2 ^ R % 2 ^ W) (2 ^ R)]
      omega
theorem find_at (c : List Int) (hc : ∀ i, i < 42 → 1 ≤ c.getD i 0) (k : Nat) (hk : k < 42) (a : Int) (h0 : belowC c k ≤ a) (h1 : a < belowC c k + c.getD k 0) : ∀ (f x : Nat), x ≤ k → k ≤ x + f → findC c f x (a - belowC c x) = k
  | 0, x, hx, hf => by
    show x = k
    omega
  | f + 1, x, hx, hf => by
    unfold findC
    by_cases e : x = k
    · subst e
      rw [if_neg (by omega)]
    · have hm := below_mono c hc (k - (x + 1)) (x + 1) (by omega)
      rw [show x + 1 + (k - (x + 1)) = k by omega] at hm
      have hs : belowC c (x + 1) = belowC c x + c.getD x 0 := rfl
      rw [if_pos ⟨by omega, by omega⟩, show a - belowC c x - c.getD x 0 = a - belowC c (x + 1) by omega]
      exact find_at c hc k hk a h0 h1 f (x + 1) (by omega) (by omega)
theorem blenF_in : ∀ (f u : Nat), u < 2 ^ f → u < 2 ^ blenF f u ∧ (u ≠ 0 → blenF f u ≠ 0 ∧ 2 ^ (blenF f u - 1) ≤ u)
  | 0, u, h => ⟨by simpa [blenF] using h, fun h0 => absurd (by simpa using h) h0⟩
  | f + 1, u, h => by
    unfold blenF
    by_cases h0 : u = 0
    · rw [if_pos h0]
      exact ⟨by omega, fun h1 => absurd h0 h1⟩
    · rw [if_neg h0]
      obtain ⟨a, b⟩ := blenF_in f (u / 2) (by rw [Nat.pow_succ] at h; omega)
      refine ⟨by rw [Nat.pow_succ]; omega, fun _ => ⟨by omega, ?_⟩⟩
      rw [Nat.add_sub_cancel]
      by_cases h1 : u / 2 = 0
      · have : blenF f (u / 2) = 0 := by
          rw [h1]
          cases f with
          | zero => rfl
          | succ f => rfl
        rw [this]
        omega
      · obtain ⟨c, d⟩ := b h1
        obtain ⟨m, hm⟩ : ∃ m, blenF f (u / 2) = m + 1 := ⟨blenF f (u / 2) - 1, by omega⟩
        rw [hm] at d ⊢
        rw [Nat.add_sub_cancel] at d
        rw [Nat.pow_succ]
        omega
theorem num_back {t : St} {m : Nat} (h : StOk t m) (n : Int) (hn : inB n) (F : Enc) (hF : 1 ≤ F.width) (d : Dec) (hS : Sim t.e d) (hN : Nest (stepS t n).e F) (he : Math.Ends F d.s) :
    ∃ d', numD ⟨d, t.c, t.s⟩ = some (n, ⟨d', (stepS t n).c, (stepS t n).s⟩) ∧ Sim (stepS t n).e d' ∧ d'.s = d.s := by
  have hk := class_lt n hn
  obtain ⟨hu1, hu2⟩ := numU_lt n hn
  have hst : stepS t n = ⟨lowE (numU n) 42 (blen (numU n) - 1) (putE (belowC t.c (blen (numU n))) (t.c.getD (blen (numU n)) 0) t.s t.e), (sawC t.c t.s (blen (numU n))).1, (sawC t.c t.s (blen (numU n))).2⟩ := rfl
  obtain ⟨g1, g2⟩ := blenF_in 64 (numU n) (by omega)
  have hfb := (fold_back n (by unfold inB at hn; omega) (by unfold inB at hn; omega)).1
  rw [hu2] at hfb
  rw [hst] at hN ⊢
  change numU n < 2 ^ blen (numU n) at g1
  change numU n ≠ 0 → blen (numU n) ≠ 0 ∧ 2 ^ (blen (numU n) - 1) ≤ numU n at g2
  generalize numU n = u at hk hu1 hu2 g1 g2 hfb hN
  obtain ⟨k, hkk⟩ : ∃ k, blen u = k := ⟨_, rfl⟩
  rw [hkk] at hk g1 g2 hN ⊢
  have hm := h.cnt.part k hk
  have h1 := put_fits _ _ _ _ h.fit h.wid hm
  have hN : Nest (lowE u 42 (k - 1) (putE (belowC t.c k) (t.c.getD k 0) t.s t.e)) F := hN
  obtain ⟨a1, a2, a3, a4, a5, a6⟩ := sim_take _ _ _ t.e F d hS h.fit h.wid hm ((nest_low u 42 (k - 1) _ h1.1 h1.2.1).trans hN) he hF
  have hcl : classD ⟨d, t.c, t.s⟩ = k := by
    unfold classD
    have := find_at t.c h.cnt.one k hk (peekD d t.s).1 a2 a3 42 0 (by omega) (by omega)
    simpa [belowC] using this
  obtain ⟨d', c1, c2, c3⟩ := sim_low u F hF 42 (k - 1) (if k = 0 then 0 else 1) _ _ (by omega) a5 h1.1 h1.2.1 hN (by rw [a6]; exact he)
  refine ⟨d', ?_, c2, c3.trans a6⟩
  unfold numD
  rw [hcl]
  show (if (peekD d t.s).2 = 0 then (if (takeD (belowC t.c k) (t.c.getD k 0) t.s d).1 = 0 then _ else none) else none) = _
  rw [if_pos a1, if_pos a4, c1, Option.map_some]
  have hv : (if k = 0 then 0 else 1) * 2 ^ (k - 1) + u % 2 ^ (k - 1) = u := by
    by_cases k0 : k = 0
    · subst k0
      simp at g1
      subst g1
      rfl
    · rw [if_neg k0]
      have hu0 : u ≠ 0 := by
        intro e
        subst e
        exact k0 (by rw [← hkk]; rfl)
      have := (g2 hu0).2
      obtain ⟨j, rfl⟩ : ∃ j, k = j + 1 := ⟨k - 1, by omega⟩
      rw [Nat.add_sub_cancel] at this ⊢
      rw [Nat.pow_succ] at g1
      rw [Nat.mod_eq_sub_mod this, Nat.mod_eq_of_lt (by omega)]
      omega
  show some (unfoldM (((if k = 0 then 0 else 1) * 2 ^ (k - 1) + u % 2 ^ (k - 1) : Nat) : Int), _) = _
  rw [hv, hfb]
theorem decs_back (F : Enc) (hF : 1 ≤ F.width) (l : List Int) : ∀ (t : St) (m : Nat) (d : Dec) (out : List Int), StOk t m → (∀ n ∈ l, inB n) → Sim t.e d → Nest (l.foldl stepS t).e F → Math.Ends F d.s →
    ∃ d', decs l.length ⟨d, t.c, t.s⟩ out = some (out ++ l, ⟨d', (l.foldl stepS t).c, (l.foldl stepS t).s⟩) ∧ Sim (l.foldl stepS t).e d' ∧ d'.s = d.s := by
  induction l with
  | nil => intro t m d out _ _ hS _ _; exact ⟨d, by simp [decs], hS, rfl⟩
  | cons x l ih =>
    intro t m d out h hl hS hN he
    have hx := hl x (by simp)
    have hl2 : ∀ n ∈ l, inB n := fun n hn => hl n (by simp [hn])
    have hok := step_ok h x hx
    rw [List.foldl_cons] at hN ⊢
    obtain ⟨d1, a1, a2, a3⟩ := num_back h x hx F hF d hS ((nest_run l _ _ hok hl2).trans hN) he
    obtain ⟨d', b1, b2, b3⟩ := ih (stepS t x) (m + 129) d1 (out ++ [x]) hok hl2 a2 hN (by rw [a3]; exact he)
    refine ⟨d', ?_, b2, b3.trans a3⟩
    show (match numD ⟨d, t.c, t.s⟩ with | none => none | some (x, r') => decs l.length r' (out ++ [x])) = _
    rw [a1]
    show decs l.length _ (out ++ [x]) = _
    rw [b1, List.append_assoc]
    rfl
/-- The first numbers of a list that was encoded, decoded; the bytes that they had. -/
theorem dec_back (l1 l2 : List Int) (h : ∀ n ∈ l1 ++ l2, inB n) (hl : l1.length ≤ 16777216) (behind : ByteArray) :
    decF (finishS (runS (l1 ++ l2)).e ++ behind) (l1.length : Nat) = (l1, ((sizeE (runS l1).e + 4 : Nat) : Int), 0) ∧ sizeE (runS l1).e ≤ sizeE (runS (l1 ++ l2)).e := by
  have ho := run_ok (l1 ++ l2) h
  have h1 : ∀ n ∈ l1, inB n := fun n hn => h n (by simp [hn])
  have h2 : ∀ n ∈ l2, inB n := fun n hn => h n (by simp [hn])
  have ho1 := run_ok l1 h1
  have hr : runS (l1 ++ l2) = l2.foldl stepS (runS l1) := by simp [runS]
  have hn1 : Nest (runS l1).e (runS (l1 ++ l2)).e := by rw [hr]; exact nest_run l2 _ _ ho1 h2
  have hn0 : Nest newE (runS l1).e := nest_run l1 _ _ start_ok h1
  have hft := ho.fit
  generalize (runS (l1 ++ l2)).e = F at hft hn1 ⊢
  obtain ⟨hs, hss⟩ := start_sim F hft (hn0.trans hn1) _ (finish_ends F hft behind)
  obtain ⟨d', a1, a2, a3⟩ := decs_back F hft.good.wid0 l1 ⟨newE, ones, 42⟩ 1 (ofD (finishS F ++ behind)) [] start_ok h1 hs hn1 (by rw [hss]; exact finish_ends F hft behind)
  constructor
  · unfold decF
    rw [if_neg (by omega), if_neg (by rw [hs.bad]; decide), Int.toNat_natCast, a1]
    show (([] : List Int) ++ l1, d'.pos, (0 : Int)) = _
    rw [List.nil_append, a2.pos]
    rfl
  · obtain ⟨j, hj, _⟩ := hn1
    omega
theorem enc_size (l : List Int) (h : ∀ n ∈ l, inB n) : (finishS (runS l).e).size = sizeE (runS l).e + 4 := finish_size _ (run_ok l h).fit
end Go.Proofs.Ytoologbaoifheaa.Math
/- The plain law of layer 19: a thousand noughts have few bytes. -/
namespace Go.Proofs.Ytoologbaoifheaa.Math
open Go.RowKit Go.Proofs.Ytoologbaoifheaa.Hand Go.Proofs.YtoologbaoifheaaW.PrintWords Go.Proofs.YtoologbaoifheaaW.PrintLast Go.Proofs.YtoologbaoifheaaW.PrintMore
set_option linter.unusedVariables false
set_option linter.unusedSimpArgs false

/-- An encoder in which nothing but noughts stands. -/
def zE (w m : Nat) : Enc := ⟨0, w, 0, 1, List.replicate m 0⟩
theorem zE_wide (w m : Nat) : wideE (zE w m) = zE (w * 256) (m + 1) := by
  unfold wideE shiftE
  rw [if_pos (.inl (show (0 : Int) < 4278190080 by decide))]
  unfold onE carryE zE carryOut
  simp [List.replicate_succ']
def normZ : Nat → Nat × Nat → Nat × Nat
  | 0, p => p
  | k + 1, p => if p.1 < 16777216 then normZ k (p.1 * 256, p.2 + 1) else p
theorem zE_norm : ∀ (k w m : Nat), normE k (zE w m) = zE (normZ k (w, m)).1 (normZ k (w, m)).2
  | 0, w, m => rfl
  | k + 1, w, m => by
    unfold normE normZ
    by_cases h : w < 16777216
    · rw [if_pos (show (zE w m).width / 16777216 = 0 by show ((w : Int) / 16777216 = 0); omega), if_pos h, zE_wide, zE_norm k]
    · rw [if_neg (show ¬ (zE w m).width / 16777216 = 0 by show ¬ ((w : Int) / 16777216 = 0); omega), if_neg h]
theorem zE_put (n t w m : Nat) : putE 0 n t (zE w m) = zE (normZ 3 (w / t * n, m)).1 (normZ 3 (w / t * n, m)).2 := by
  rw [← zE_norm]
  have e : partE 0 n t (zE w m) = zE (w / t * n) m := by
    unfold partE zE
    simp
  unfold putE
  rw [e]
/-- Counts when so many noughts were seen. -/
def zC (j : Nat) : List Int := ((1 + 32 * j : Nat) : Int) :: List.replicate 41 1
def zS (w m j : Nat) : St := ⟨zE w m, zC j, ((42 + 32 * j : Nat) : Int)⟩
theorem z_step (w m j : Nat) (h : 42 + 32 * (j + 1) ≤ 32768) : stepS (zS w m j) 0 = zS (normZ 3 (w / (42 + 32 * j) * (1 + 32 * j), m)).1 (normZ 3 (w / (42 + 32 * j) * (1 + 32 * j), m)).2 (j + 1) := by
  have h1 : numU 0 = 0 := by decide +kernel
  have h2 : blen 0 = 0 := by decide +kernel
  unfold stepS
  rw [h1, h2]
  have h3 : belowC (zS w m j).c 0 = 0 := rfl
  have h4 : (zS w m j).c.getD 0 0 = ((1 + 32 * j : Nat) : Int) := rfl
  have h5 : (zS w m j).s = ((42 + 32 * j : Nat) : Int) := rfl
  have h6 : (zS w m j).e = zE w m := rfl
  have h7 : sawC (zS w m j).c (zS w m j).s 0 = (zC (j + 1), ((42 + 32 * (j + 1) : Nat) : Int)) := by
    unfold sawC
    rw [h5, if_pos (by omega), h4]
    have e1 : ((1 + 32 * j : Nat) : Int) + 32 = ((1 + 32 * (j + 1) : Nat) : Int) := by omega
    have e2 : ((42 + 32 * j : Nat) : Int) + 32 = ((42 + 32 * (j + 1) : Nat) : Int) := by omega
    rw [e1, e2]
    rfl
  rw [h3, h4, h7, h5, h6, zE_put]
  rfl
def zrun : Nat → Nat → Nat × Nat → Nat × Nat
  | 0, _, p => p
  | f + 1, j, p => zrun f (j + 1) (normZ 3 (p.1 / (42 + 32 * j) * (1 + 32 * j), p.2))
theorem z_run : ∀ (f j w m : Nat), 42 + 32 * (j + f) ≤ 32768 → (List.replicate f (0 : Int)).foldl stepS (zS w m j) = zS (zrun f j (w, m)).1 (zrun f j (w, m)).2 (j + f)
  | 0, j, w, m, _ => rfl
  | f + 1, j, w, m, h => by
    rw [List.replicate_succ, List.foldl_cons, z_step w m j (by omega), z_run f (j + 1) _ _ (by omega), show j + 1 + f = j + (f + 1) by omega]
    rfl
theorem z_size (w m j : Nat) : sizeE (zS w m j).e = m + 1 := by simp [sizeE, zS, zE]
theorem z_few : (zrun 1000 0 (4294967295, 0)).2 ≤ 30 := by decide +kernel
def noughts : List Int := List.replicate 1000 0
theorem noughts_len : noughts.length = 1000 := List.length_replicate
theorem noughts_in : ∀ n ∈ noughts, inB n := by
  intro n hn
  rw [(List.mem_replicate.1 hn).2]
  decide
theorem noughts_size : (finishS (runS noughts).e).size < 40 := by
  rw [enc_size _ noughts_in]
  have e : runS noughts = zS (zrun 1000 0 (4294967295, 0)).1 (zrun 1000 0 (4294967295, 0)).2 (0 + 1000) := z_run 1000 0 4294967295 0 (by decide)
  rw [e, z_size]
  have := z_few
  omega
theorem enc_noughts : encF noughts = (finishS (runS noughts).e, 0) := by
  unfold encF
  rw [if_pos noughts_in]
theorem dec_noughts (behind : ByteArray) : decF (finishS (runS noughts).e ++ behind) 1000 = (noughts, ((finishS (runS noughts).e).size : Int), 0) := by
  have h := (dec_back noughts [] (by rw [List.append_nil]; exact noughts_in) (by rw [noughts_len]; decide) behind).1
  rw [List.append_nil, noughts_len] at h
  rw [enc_size _ noughts_in]
  exact h
end Go.Proofs.Ytoologbaoifheaa.Math
/- Contracts of layer 19, proved by hand: awake. -/
namespace Go.Proofs.Ytoologbaoifheaa.Hand
open Go.RowKit Go.Proofs.Ytoologbaoifheaa.Q Go.Proofs.Ytoologbaoifheaa.Math Go.Proofs.YtoologbaoifheaaW.PrintWords Go.Proofs.YtoologbaoifheaaW.PrintLast Go.Proofs.YtoologbaoifheaaW.PrintMore
set_option linter.unusedVariables false
set_option linter.unusedSimpArgs false

def nrow : Array Value := (noughts.map (Value.int .i64)).toArray
theorem made_zeros (n : Nat) : madeCells (Value.int .i64 0).cells (n * 1) = ((List.replicate n (0 : Int)).map (Value.int .i64)).toArray := by
  apply Array.ext'
  simp [madeCells, Value.cells, Nat.mod_one]
  apply List.ext_getElem
  · simp
  · intro i h1 h2
    simp
theorem made_nrow : madeCells (Value.int .i64 0).cells (1000 * 1) = nrow := made_zeros 1000
theorem make1000 (w : World) : (Instr.makeSlice 25 (.int .i64 1000) (.int .i64 1000)).run Try.prog w = .ok (.slice (some ⟨w.heap.size, 0, none⟩) 1000 1000) (w.alloc (.cells nrow 3)) := by
  obtain ⟨i0, hi, hz0, hz1, hz2⟩ := info_parts infoI
  have := run_make w 25 3 i0 _ Try.underlying25 hi hz0 .i64 .i64 1000 1000 (by omega) (by omega) (by rw [hz2]; omega) (by omega)
  rw [show (1000 : Int).toNat = 1000 from rfl, hz1, made_nrow] at this
  exact this
theorem reads_new (l : List Int) (w : World) (cs : Array Value) (hc : cs = (l.map (Value.int .i64)).toArray) (hm : l.length ≤ 1000000) : ReadsInt (w.alloc (.cells cs 3)) .i64 (some ⟨w.heap.size, 0, none⟩) l.length l := by
  refine ⟨rfl, by omega, fun _ => ⟨_, rfl, fun j hj => ?_⟩⟩
  rw [add_plain, blk_cell (blk_new w _), hc]
  simp [List.getD_eq_getElem?_getD, hj]
theorem noughts_span : ∀ n ∈ noughts, -9223372036854775808 ≤ n ∧ n ≤ 9223372036854775807 := by
  intro n hn
  have := noughts_in n hn
  unfold inB at this
  omega
set_option maxHeartbeats 8000000 in
set_option maxRecDepth 100000 in
theorem awake_any (w : World) : Calls Try.prog 12 #[] w fun e w' => e = .returned (.bool true) ∧ Below w.heap.size w w' := by
  have hmk := make1000
  have HEN := Aside0.mk (Encode_any noughts (some ⟨w.heap.size, 0, none⟩) 1000 (w.alloc (.cells nrow 3)) (reads_new noughts w nrow rfl (by rw [noughts_len]; decide)) (by rw [noughts_len]; decide) noughts_span)
  rw [enc_noughts, noughts_len] at HEN
  have HB0 := Aside0.mk ((Below.refl w.heap.size w).alloc (Nat.le_refl _) (.cells nrow 3))
  have HSZ := Aside0.mk noughts_size
  have hsz := noughts_size
  have HDE := Aside0.mk (dec_noughts ⟨#[120]⟩)
  generalize finishS (runS noughts).e = S at HEN HSZ HDE hsz
  have HS2 : Aside0 ((S ++ (⟨#[120]⟩ : ByteArray)).size ≤ 9223372036854775807) := ⟨by
    rw [ByteArray.size_append]
    have : (⟨#[120]⟩ : ByteArray).size = 1 := rfl
    omega⟩
  have hcat : S.size + (⟨#[120]⟩ : ByteArray).size ≤ 9223372036854775807 := by
    have : (⟨#[120]⟩ : ByteArray).size = 1 := rfl
    omega
  go_enter Try.func12, Try.ntmps12
  go_wp2_with fail
  with_reducible refine HEN.out.mono ?_
  rintro e w1 ⟨rfl, hB⟩
  have HB1 := Aside0.mk (HB0.out.trans (hB.mono HB0.out.size))
  clear hB HB0 HEN hmk
  have HDA := Aside0.mk (Decode_any (S ++ (⟨#[120]⟩ : ByteArray)) HS2.out 1000 w1)
  rw [HDE.out] at HDA
  go_wp2_with fail
  with_reducible refine HDA.out.mono ?_
  rintro e w2 ⟨v, rfl, hG, hB⟩
  have HB2 := Aside0.mk (HB1.out.trans (hB.mono HB1.out.size))
  have HG := Aside0.mk hG
  clear hG hB HB1 HDA
  obtain ⟨A, c, rfl, hc, hC⟩ := HG.out.C
  rw [noughts_len] at hc hC ⊢
  have HC := Aside0.mk hC
  clear hc hC HG
  go_wp2_with fail
  with_reducible refine (Fold_any (-2) (by decide) (by decide) w2).mono ?_
  rw [show foldM (-2) = 3 by decide +kernel]
  rintro e w3 ⟨rfl, hd3⟩
  go_wp2_with fail
  with_reducible refine (Unfold_any 4 (by decide) (by decide) w3).mono ?_
  rw [show unfoldM 4 = 2 by decide +kernel]
  rintro e w4 ⟨rfl, hd4⟩
  have HB4 : Aside0 (Below w.heap.size w w4) := ⟨(HB2.out.trans (hd3.below.mono HB2.out.size)).trans (hd4.below.mono (Nat.le_trans HB2.out.size hd3.below.size))⟩
  have hC4 : Kd.C (Kd.int .i64) w4 A 1000 noughts := Kd.C_below (Kd.C_below HC.out hd3.below) hd4.below
  obtain ⟨ad, rfl, hx⟩ := (Kd.reads_of_C (d := (0 : Int)) (enc := Value.int .i64) hC4).at_ 999 (by decide) (by decide)
  have hz : rdOf 0 noughts 999 = 0 := by simp [rdOf, noughts]
  rw [hz, show (999 : Int).toNat = 999 from rfl] at hx
  clear hd3 hd4 HB2 HC hC4 hz
  have hx2 : w4.cell? { block := ad.block, off := ad.off + 999 } = some (.int .i64 0) := hx
  clear hx
  go_wp2
  go_ret
  exact ⟨rfl, HB4.out⟩
end Go.Proofs.Ytoologbaoifheaa.Hand
/- Contracts of layer 19, proved by hand: ModelFolds, ModelBack, ModelHeads. -/
namespace Go.Proofs.Ytoologbaoifheaa.Hand
open Go.RowKit Go.Proofs.Ytoologbaoifheaa.Q Go.Proofs.Ytoologbaoifheaa.Math Go.Proofs.YtoologbaoifheaaW.PrintWords Go.Proofs.YtoologbaoifheaaW.PrintLast Go.Proofs.YtoologbaoifheaaW.PrintMore
set_option linter.unusedVariables false
set_option linter.unusedSimpArgs false
attribute [local go_sem] max2_int min2_int max_two min_two

theorem ints_loop (a : List Int) (h : a.length < 9223372036854775807) : ∀ d i : Nat, i + d = a.length → lacquerref05_Ints.l0 (d + 1) a a (i : Int) = some true
  | 0, i, e => by
    rw [lacquerref05_Ints.l0.eq_2]
    simp only [show ¬ ((i : Int) < (a.length : Int)) by omega, if_false]
  | d + 1, i, e => by
    rw [lacquerref05_Ints.l0.eq_2]
    simp only [show ((i : Int) < (a.length : Int)) by omega, show (0 : Int) ≤ (i : Int) by omega, if_true, wrap_id ((i : Int) + 1) (by omega) (by omega)]
    exact ints_loop a h d (i + 1) (by omega)
theorem Ints_same (l : List Int) (hl : l.length < 9223372036854775807) (A : Option Addr) (c : Nat) (B : Option Addr) (d : Nat) (w : World) (hA : Kd.C (Kd.int .i64) w A l.length l) (hc : l.length ≤ c) (hB : Kd.C (Kd.int .i64) w B l.length l) (hd : l.length ≤ d) :
    Calls Try.prog 17 #[.slice A l.length c, .slice B l.length d] w fun e w' => e = .returned (.bool true) ∧ Drawn0 w w' := by
  refine lacquerref05_Ints.calls (l.length + 1) A c l B d l true w hA hc hB hd ?_
  unfold lacquerref05_Ints.f
  rw [if_pos rfl]
  exact ints_loop l hl l.length 0 (by omega)
def tab (n : Nat) (f : Nat → Int) : List Int := (List.range n).map f
theorem tab_length (n : Nat) (f : Nat → Int) : (tab n f).length = n := by simp [tab]
theorem tab_get (n : Nat) (f : Nat → Int) (j : Nat) (h : j < n) : (tab n f).getD j 0 = f j := by simp [tab, List.getD_eq_getElem?_getD, h]
theorem and1u (x : Int) : Go.bits .and .u64 x 1 = x % 2 := by
  show IntKind.u64.wrap ((BitVec.ofInt 64 x &&& BitVec.ofInt 64 1).toNat : Int) = x % 2
  rw [show BitVec.ofInt 64 1 = 1#64 from rfl, BitVec.toNat_and, BitVec.toNat_ofInt, show (1#64).toNat = 1 from rfl, Nat.and_one_is_mod, u64_wrap]
  omega
theorem runfoldM_eq (n : Int) (h0 : -9223372036854775808 ≤ n) (h1 : n ≤ 9223372036854775807) : lacquerref19_Unfold.f n = some (unfoldM n) := by
  unfold lacquerref19_Unfold.f unfoldM
  rw [and1u, u64_wrap]
  unfold wrap64
  by_cases h : n % 2 = 0
  · rw [if_pos (by omega), if_pos h]
    congr 1
    omega
  · rw [if_neg (by omega), if_neg h]
    congr 1
    omega
/-- A slice that came in, as a list. -/
theorem came_list {w : World} {A : Option Addr} {n : Nat} {V : Nat → Int} (hn : n * 8 ≤ 140737488351232) (F : ∀ j, j < n → ∃ ad, A = some ad ∧ w.cell? (ad.add j) = some (.int .i64 (V j)) ∧ -9223372036854775808 ≤ V j ∧ V j ≤ 9223372036854775807) :
    ∃ l : List Int, l.length = n ∧ Kd.C (Kd.int .i64) w A l.length l ∧ ∀ x ∈ l, -9223372036854775808 ≤ x ∧ x ≤ 9223372036854775807 := by
  refine ⟨tab n V, tab_length n V, ?_, ?_⟩
  · refine Kd.C_of_reads (d := (0 : Int)) (enc := Value.int .i64) ⟨rfl, by rw [tab_length]; omega, fun h => ?_⟩
    rw [tab_length] at h
    obtain ⟨ad, e, _⟩ := F 0 h
    refine ⟨ad, e, fun j hj => ?_⟩
    rw [tab_length] at hj
    obtain ⟨ad2, e2, c2, _⟩ := F j hj
    rw [e] at e2
    injection e2 with e2
    subst e2
    rw [c2, tab_get n V j hj]
  · intro x hx
    obtain ⟨j, hj, rfl⟩ := List.mem_map.1 hx
    obtain ⟨_, _, _, h⟩ := F j (List.mem_range.1 hj)
    exact h
set_option maxHeartbeats 8000000 in
set_option maxRecDepth 100000 in
theorem Folds_any (n : Int) (h0 : -9223372036854775808 ≤ n) (h1 : n ≤ 9223372036854775807) (w : World) : Calls Try.prog 3 #[.int .i64 n] w fun e w' => e = .returned (.bool true) ∧ Below w.heap.size w w' := by
  have hfi := wrap64_in (2 * n)
  have hf : -9223372036854775808 ≤ foldM n ∧ foldM n ≤ 9223372036854775807 := by
    unfold foldM
    split <;> omega
  have hu : -9223372036854775808 ≤ unfoldM n ∧ unfoldM n ≤ 9223372036854775807 := by
    unfold unfoldM
    split <;> omega
  obtain ⟨b1, b2⟩ := fold_back n h0 h1
  have c1 := fun W => Fold_any n h0 h1 W
  have c2 := fun W => lacquerref19_Fold.calls n _ W (rfoldM_eq n h0 h1)
  have c3 := fun W => Unfold_any n h0 h1 W
  have c4 := fun W => lacquerref19_Unfold.calls n _ W (runfoldM_eq n h0 h1)
  have c5 := fun W => Unfold_any (foldM n) hf.1 hf.2 W
  have c6 := fun W => Fold_any (unfoldM n) hu.1 hu.2 W
  rw [b1] at c5
  rw [b2] at c6
  have C1 := Aside0.mk c1
  have C2 := Aside0.mk c2
  have C3 := Aside0.mk c3
  have C4 := Aside0.mk c4
  have C5 := Aside0.mk c5
  have C6 := Aside0.mk c6
  clear hf hu b1 b2 c1 c2 c3 c4 c5 c6 hfi
  generalize foldM n = f at C1 C2 C5
  generalize unfoldM n = u at C3 C4 C6
  go_enter Try.func3, Try.ntmps3
  go_wp2_with fail
  with_reducible refine (C1.out _).mono ?_
  rintro e w1 ⟨rfl, hd⟩
  have HB1 : Aside0 (Below w.heap.size w w1) := ⟨hd.below⟩
  clear hd
  go_wp2_with fail
  with_reducible refine (C2.out _).mono ?_
  rintro e w2 ⟨rfl, hd⟩
  have HB2 : Aside0 (Below w.heap.size w w2) := ⟨HB1.out.trans (hd.below.mono HB1.out.size)⟩
  clear hd HB1
  go_wp2_with fail
  with_reducible refine (C3.out _).mono ?_
  rintro e w3 ⟨rfl, hd⟩
  have HB3 : Aside0 (Below w.heap.size w w3) := ⟨HB2.out.trans (hd.below.mono HB2.out.size)⟩
  clear hd HB2
  go_wp2_with fail
  with_reducible refine (C4.out _).mono ?_
  rintro e w4 ⟨rfl, hd⟩
  have HB4 : Aside0 (Below w.heap.size w w4) := ⟨HB3.out.trans (hd.below.mono HB3.out.size)⟩
  clear hd HB3
  go_wp2_with fail
  with_reducible refine (C1.out _).mono ?_
  rintro e w5 ⟨rfl, hd⟩
  have HB5 : Aside0 (Below w.heap.size w w5) := ⟨HB4.out.trans (hd.below.mono HB4.out.size)⟩
  clear hd HB4
  go_wp2_with fail
  with_reducible refine (C5.out _).mono ?_
  rintro e w6 ⟨rfl, hd⟩
  have HB6 : Aside0 (Below w.heap.size w w6) := ⟨HB5.out.trans (hd.below.mono HB5.out.size)⟩
  clear hd HB5
  go_wp2_with fail
  with_reducible refine (C3.out _).mono ?_
  rintro e w7 ⟨rfl, hd⟩
  have HB7 : Aside0 (Below w.heap.size w w7) := ⟨HB6.out.trans (hd.below.mono HB6.out.size)⟩
  clear hd HB6
  go_wp2_with fail
  with_reducible refine (C6.out _).mono ?_
  rintro e w8 ⟨rfl, hd⟩
  have HB8 : Aside0 (Below w.heap.size w w8) := ⟨HB7.out.trans (hd.below.mono HB7.out.size)⟩
  clear hd HB7
  go_wp2_with fail
  with_reducible refine (awake_any _).mono ?_
  rintro e w9 ⟨rfl, hB⟩
  have HB9 := Aside0.mk (HB8.out.trans (hB.mono HB8.out.size))
  clear hB
  go_wp2
  go_ret
  exact ⟨rfl, HB9.out⟩
theorem enc_no (l : List Int) (h : ¬ ∀ n ∈ l, inB n) : encF l = (⟨#[]⟩, 1) := by unfold encF; rw [if_neg h]
theorem enc_yes (l : List Int) (h : ∀ n ∈ l, inB n) : encF l = (finishS (runS l).e, 0) := by unfold encF; rw [if_pos h]
theorem enc_most (l : List Int) (h : ∀ n ∈ l, inB n) (hl : l.length ≤ 3000) : (finishS (runS l).e).size ≤ 1000000 := by
  rw [enc_size l h]
  have := (run_ok l h).size
  omega
set_option maxHeartbeats 8000000 in
set_option maxRecDepth 100000 in
theorem Back_any (l : List Int) (A : Option Addr) (c : Nat) (behind : ByteArray) (w : World) (hA : Kd.C (Kd.int .i64) w A l.length l) (hc : l.length ≤ c) (hin : ∀ n ∈ l, -9223372036854775808 ≤ n ∧ n ≤ 9223372036854775807) (hb : behind.size ≤ 140737488351232) :
    Calls Try.prog 6 #[.slice A l.length c, .string behind] w fun e w' => e = .returned (.bool true) ∧ Below w.heap.size w w' := by
  by_cases h3 : (3000 : Int) < (l.length : Int)
  · go_enter Try.func6, Try.ntmps6
    go_wp2_with fail
    with_reducible refine (awake_any _).mono ?_
    rintro e w1 ⟨rfl, hB⟩
    have HB1 := Aside0.mk hB
    clear hB
    go_wp2
    go_ret
    exact ⟨rfl, HB1.out⟩
  · have HEN := Aside0.mk (Encode_any l A c w (Kd.reads_of_C (d := (0 : Int)) (enc := Value.int .i64) hA) (by omega) hin)
    have HA := Aside0.mk hA
    by_cases ha : ∀ n ∈ l, inB n
    · have hmost := enc_most l ha (by omega)
      have hsz := enc_size l ha
      have hdb := (dec_back l [] (by rw [List.append_nil]; exact ha) (by omega) behind).1
      rw [List.append_nil, ← hsz] at hdb
      rw [enc_yes l ha] at HEN
      have HDB := Aside0.mk hdb
      clear ha hsz hdb hA hin
      generalize finishS (runS l).e = S at HEN hmost HDB
      have hcat : S.size + behind.size ≤ 9223372036854775807 := by omega
      have HS2 : Aside0 ((S ++ behind).size ≤ 9223372036854775807) := ⟨by rw [ByteArray.size_append]; omega⟩
      go_enter Try.func6, Try.ntmps6
      go_wp2_with fail
      with_reducible refine HEN.out.mono ?_
      rintro e w1 ⟨rfl, hB⟩
      have HB1 := Aside0.mk hB
      have HA1 := Aside0.mk (Kd.C_below HA.out hB)
      clear hB HEN HA
      have HDA := Aside0.mk (Decode_any (S ++ behind) HS2.out (l.length : Nat) w1)
      rw [HDB.out] at HDA
      go_wp2_with fail
      with_reducible refine HDA.out.mono ?_
      rintro e w2 ⟨v, rfl, hG, hB⟩
      have HB2 := Aside0.mk (HB1.out.trans (hB.mono HB1.out.size))
      have HA2 := Aside0.mk (Kd.C_below HA1.out hB)
      obtain ⟨A2, c2, rfl, hc2, hC2⟩ := Got.C hG
      have HI := Aside0.mk (Ints_same l (by omega) A c A2 c2 w2 HA2.out hc hC2 hc2)
      clear hG hB hC2 HB1 HA1 HA2 HDA
      go_wp2_with fail
      with_reducible refine HI.out.mono ?_
      rintro e w3 ⟨rfl, hd⟩
      have HB3 := Aside0.mk (HB2.out.trans (hd.below.mono HB2.out.size))
      clear hd HB2 HI
      go_wp2_with fail
      with_reducible refine (awake_any _).mono ?_
      rintro e w4 ⟨rfl, hB⟩
      have HB4 := Aside0.mk (HB3.out.trans (hB.mono HB3.out.size))
      clear hB HB3
      go_wp2
      go_ret
      exact ⟨rfl, HB4.out⟩
    · rw [enc_no l ha] at HEN
      clear ha hA hin
      go_enter Try.func6, Try.ntmps6
      go_wp2_with fail
      with_reducible refine HEN.out.mono ?_
      rintro e w1 ⟨rfl, hB⟩
      have HB1 := Aside0.mk hB
      clear hB HEN HA
      go_wp2_with fail
      with_reducible refine (awake_any _).mono ?_
      rintro e w4 ⟨rfl, hB⟩
      have HB4 := Aside0.mk (HB1.out.trans (hB.mono HB1.out.size))
      clear hB HB1
      go_wp2
      go_ret
      exact ⟨rfl, HB4.out⟩
theorem Back_came (A : Option Addr) (n c : Nat) (V : Nat → Int) (behind : ByteArray) (w : World) (hc : n ≤ c) (hn : n * 8 ≤ 140737488351232) (hb : behind.size ≤ 140737488351232)
    (F : ∀ j, j < n → ∃ ad, A = some ad ∧ w.cell? (ad.add j) = some (.int .i64 (V j)) ∧ -9223372036854775808 ≤ V j ∧ V j ≤ 9223372036854775807) :
    Calls Try.prog 6 #[.slice A n c, .string behind] w fun e w' => e = .returned (.bool true) ∧ Below w.heap.size w w' := by
  obtain ⟨a, rfl, ha, ia⟩ := came_list hn F
  exact Back_any a A c behind w ha hc ia hb
set_option maxHeartbeats 8000000 in
set_option maxRecDepth 100000 in
theorem Heads_any (l : List Int) (A : Option Addr) (c : Nat) (k : Int) (w : World) (hA : Kd.C (Kd.int .i64) w A l.length l) (hc : l.length ≤ c) (hin : ∀ n ∈ l, -9223372036854775808 ≤ n ∧ n ≤ 9223372036854775807) :
    Calls Try.prog 7 #[.slice A l.length c, .int .i64 k] w fun e w' => e = .returned (.bool true) ∧ Below w.heap.size w w' := by
  by_cases h3 : (3000 : Int) < (l.length : Int)
  · go_enter Try.func7, Try.ntmps7
    go_wp2_with fail
    with_reducible refine (awake_any _).mono ?_
    rintro e w1 ⟨rfl, hB⟩
    have HB1 := Aside0.mk hB
    clear hB
    go_wp2
    go_ret
    exact ⟨rfl, HB1.out⟩
  · have HEN := Aside0.mk (Encode_any l A c w (Kd.reads_of_C (d := (0 : Int)) (enc := Value.int .i64) hA) (by omega) hin)
    have HA := Aside0.mk hA
    by_cases ha : ∀ n ∈ l, inB n
    · have hmost := enc_most l ha (by omega)
      have hsz := enc_size l ha
      obtain ⟨j1, hj1⟩ : ∃ j1 : Int, (if (l.length : Int) < k then (l.length : Int) else k) = j1 := ⟨_, rfl⟩
      obtain ⟨j, hj⟩ : ∃ j : Nat, (if 0 < j1 then j1 else 0) = (j : Int) := ⟨(if 0 < j1 then j1 else 0).toNat, by split <;> omega⟩
      have hjn : j ≤ l.length := by split at hj <;> split at hj1 <;> omega
      have hlj : (l.take j).length = j := by rw [List.length_take]; omega
      obtain ⟨hdb, hds⟩ := dec_back (l.take j) (l.drop j) (by rw [List.take_append_drop]; exact ha) (by omega) ⟨#[]⟩
      rw [List.take_append_drop, hlj, show ∀ x : ByteArray, x ++ (⟨#[]⟩ : ByteArray) = x from fun x => by apply ByteArray.ext; simp] at hdb
      rw [List.take_append_drop] at hds
      rw [enc_yes l ha] at HEN
      have HDB := Aside0.mk hdb
      obtain ⟨q, hq⟩ : ∃ q, sizeE (runS (l.take j)).e + 4 = q := ⟨_, rfl⟩
      rw [hq] at HDB
      have hqs : q ≤ (finishS (runS l).e).size := by omega
      clear ha hsz hdb hA hin hq hds
      generalize finishS (runS l).e = S at HEN hmost HDB hqs
      have HS2 : Aside0 (S.size ≤ 9223372036854775807) := ⟨by omega⟩
      have j0 : (0 : Int) ≤ (j : Int) := by omega
      have jc : (j : Int) ≤ (c : Int) := by omega
      have jc2 : ¬ (c : Int) < (j : Int) := by omega
      have qs : (q : Int) ≤ (S.size : Int) := by omega
      have HLJ := Aside0.mk hlj
      clear hlj
      go_enter Try.func7, Try.ntmps7
      go_wp2_with fail
      with_reducible refine HEN.out.mono ?_
      rintro e w1 ⟨rfl, hB⟩
      have HB1 := Aside0.mk hB
      have HA1 := Aside0.mk (Kd.C_below HA.out hB)
      clear hB HEN HA
      have HDA := Aside0.mk (Decode_any S HS2.out (j : Nat) w1)
      rw [HDB.out] at HDA
      go_wp2_with fail
      with_reducible refine HDA.out.mono ?_
      rintro e w2 ⟨v, rfl, hG, hB⟩
      have HB2 := Aside0.mk (HB1.out.trans (hB.mono HB1.out.size))
      have HA2 := Aside0.mk (Kd.C_below HA1.out hB)
      obtain ⟨A2, c2, rfl, hc2, hC2⟩ := Got.C hG
      have HI := Aside0.mk (Ints_same (l.take j) (by rw [HLJ.out]; omega) A2 c2 A c w2 hC2 hc2 (Kd.C_take HA2.out hjn) (by rw [HLJ.out]; omega))
      rw [HLJ.out] at HI hc2 ⊢
      clear hG hB hC2 HB1 HA1 HA2 HDA
      go_wp2_with fail
      with_reducible refine HI.out.mono ?_
      rintro e w3 ⟨rfl, hd⟩
      have HB3 := Aside0.mk (HB2.out.trans (hd.below.mono HB2.out.size))
      clear hd HB2 HI
      go_wp2_with fail
      with_reducible refine (awake_any _).mono ?_
      rintro e w4 ⟨rfl, hB⟩
      have HB4 := Aside0.mk (HB3.out.trans (hB.mono HB3.out.size))
      clear hB HB3
      go_wp2
      go_ret
      exact ⟨rfl, HB4.out⟩
    · rw [enc_no l ha] at HEN
      clear ha hA hin
      go_enter Try.func7, Try.ntmps7
      go_wp2_with fail
      with_reducible refine HEN.out.mono ?_
      rintro e w1 ⟨rfl, hB⟩
      have HB1 := Aside0.mk hB
      clear hB HEN HA
      go_wp2_with fail
      with_reducible refine (awake_any _).mono ?_
      rintro e w4 ⟨rfl, hB⟩
      have HB4 := Aside0.mk (HB1.out.trans (hB.mono HB1.out.size))
      clear hB HB1
      go_wp2
      go_ret
      exact ⟨rfl, HB4.out⟩
theorem Heads_came (A : Option Addr) (n c : Nat) (V : Nat → Int) (k : Int) (w : World) (hc : n ≤ c) (hn : n * 8 ≤ 140737488351232)
    (F : ∀ j, j < n → ∃ ad, A = some ad ∧ w.cell? (ad.add j) = some (.int .i64 (V j)) ∧ -9223372036854775808 ≤ V j ∧ V j ≤ 9223372036854775807) :
    Calls Try.prog 7 #[.slice A n c, .int .i64 k] w fun e w' => e = .returned (.bool true) ∧ Below w.heap.size w w' := by
  obtain ⟨a, rfl, ha, ia⟩ := came_list hn F
  exact Heads_any a A c k w ha hc ia
end Go.Proofs.Ytoologbaoifheaa.Hand
/- Contracts of layer 19, proved by hand: the reference's counts. -/
namespace Go.Proofs.Ytoologbaoifheaa.Hand
open Go.RowKit Go.Proofs.Ytoologbaoifheaa.Q Go.Proofs.Ytoologbaoifheaa.Math Go.Proofs.YtoologbaoifheaaW.PrintWords Go.Proofs.YtoologbaoifheaaW.PrintLast Go.Proofs.YtoologbaoifheaaW.PrintMore
set_option linter.unusedVariables false
set_option linter.unusedSimpArgs false

/-- A row of whole numbers of one's own. -/
def IntsAt (w : World) (B : Nat) (v : Value) (xs : List Int) : Prop := Kd.R (Kd.int .i64) 3 w B (fun k => v.ownBlock = some k) v xs
theorem int_E : ∀ q, q ∈ 3 :: (Kd.int .i64).E → q = 3 := by
  intro q hq
  simpa [Kd.int, Kd.scalar] using hq
theorem IntsAt.of {w : World} {B : Nat} {ok : Nat → Prop} {v : Value} {xs : List Int} (h : Kd.R (Kd.int .i64) 3 w B ok v xs) : IntsAt w B v xs := by
  obtain ⟨h0, inner, hown, hr⟩ := h
  exact ⟨fun k hk => hk, inner, hown, hr.imp_ (fun _ _ hm => hm)⟩
theorem IntsAt.all {w : World} {B : Nat} {v : Value} {xs : List Int} (h : IntsAt w B v xs) : Kd.R (Kd.int .i64) 3 w B (fun _ => True) v xs := Kd.R_mono h (fun _ _ => trivial)
theorem IntsAt.nil (w : World) (B : Nat) : IntsAt w B (.slice none 0 0) [] := Kd.R_nil _ _ _ _ _
theorem IntsAt.below {w w' : World} {B : Nat} {v : Value} {xs : List Int} (h : IntsAt w B v xs) (hb : Below w.heap.size w w') : IntsAt w' B v xs := Kd.R_below h hb
theorem IntsAt.set {w : World} {B : Nat} {v : Value} {xs : List Int} (h : IntsAt w B v xs) {g t : Nat} {cells : Array Value} (hb : w.heap[g]? = some (.cells cells t (0, 0))) (ht : t ≠ 3) (j : Nat) (u : Value) : IntsAt (w.setCell ⟨g, j, none⟩ u) B v xs :=
  .of (Kd.R_set h.all hb (fun q hq => by rw [int_E q hq]; exact fun e => ht e.symm) j u)
theorem IntsAt.lt {w : World} {B : Nat} {v : Value} {xs : List Int} (h : IntsAt w B v xs) : ∀ k, v.ownBlock = some k → k < w.heap.size := fun k hk => Kd.R_lt h k hk
theorem IntsAt.C {w : World} {B : Nat} {v : Value} {xs : List Int} (h : IntsAt w B v xs) : ∃ A c, v = .slice A xs.length c ∧ xs.length ≤ c ∧ Kd.C (Kd.int .i64) w A xs.length xs := Kd.R_reads h
/-- Number i of a row. -/
theorem IntsAt.place {w : World} {B : Nat} {v : Value} {xs : List Int} (h : IntsAt w B v xs) (i : Nat) (hi : i < xs.length) :
    ∃ b c, v = .slice (some ⟨b, 0, none⟩) xs.length c ∧ xs.length ≤ c ∧ (∀ j, j < xs.length → w.cell? ⟨b, j, none⟩ = some (.int .i64 (xs.getD j 0))) ∧ (∀ j, w.frozen? ⟨b, j, none⟩ = false) ∧ B ≤ b ∧ b < w.heap.size := by
  obtain ⟨inner, hown⟩ := Kd.R_own h
  obtain ⟨A, c, e, hlc, hC⟩ := Kd.R_reads h
  have hr := Kd.reads_of_C (d := (0 : Int)) (enc := Value.int .i64) hC
  rcases hown.2 with ⟨e2, h0⟩ | ⟨b, cap, cur, e2, hb, hblk, _⟩
  · omega
  · rw [e2] at e
    injection e with e3 _ e4
    subst e3 e4
    refine ⟨b, cap, e2, hlc, fun j hj => ?_, fun j => blk_frozen hblk j, hb, blk_lt hblk⟩
    obtain ⟨ad, e5, hcell⟩ := ReadsOf.at_ hr (j : Int) (by omega) (by omega)
    injection e5 with e5
    subst e5
    have : (⟨b, 0, none⟩ : Addr).add (j : Int).toNat = ⟨b, j, none⟩ := by rw [add_plain]; simp
    rw [this] at hcell
    simpa [rdOf] using hcell
/-- A number of a row is turned. -/
theorem IntsAt.store {w : World} {B b n c : Nat} {xs : List Int} (h : IntsAt w B (.slice (some ⟨b, 0, none⟩) n c) xs) (i : Nat) (y : Int) :
    IntsAt (w.setCell ⟨b, i, none⟩ (.int .i64 y)) B (.slice (some ⟨b, 0, none⟩) n c) (xs.set i y) := by
  have := Kd.R_putn (enc := Value.int .i64) (h1 := fun _ => rfl) h (i : Int) y
  rw [Int.toNat_natCast] at this
  exact this
/-- The reference's counts in block g; the row of its numbers is v. -/
def RCAt (w : World) (B g : Nat) (v : Value) (c : List Int) (s : Int) : Prop := w.heap[g]? = some (.cells #[v, .int .i64 s] 63 (0, 0)) ∧ IntsAt w B v c ∧ B ≤ g
theorem RCAt.below {w w' : World} {B g : Nat} {v : Value} {c : List Int} {s : Int} (h : RCAt w B g v c s) (hb : Below w.heap.size w w') : RCAt w' B g v c s := ⟨blk_below h.1 hb, h.2.1.below hb, h.2.2⟩
theorem RCAt.lt {w : World} {B g : Nat} {v : Value} {c : List Int} {s : Int} (h : RCAt w B g v c s) : g < w.heap.size := blk_lt h.1
theorem RCAt.cell {w : World} {B g : Nat} {v : Value} {c : List Int} {s : Int} (h : RCAt w B g v c s) (j : Nat) : w.cell? ⟨g, j, none⟩ = (#[v, Value.int .i64 s])[j]? := blk_cell h.1 j
theorem RCAt.setSum {w : World} {B g : Nat} {v : Value} {c : List Int} {s : Int} (h : RCAt w B g v c s) (y : Int) : RCAt (w.setCell ⟨g, 1, none⟩ (.int .i64 y)) B g v c y :=
  ⟨blk_put h.1 1 _ rfl, h.2.1.set h.1 (by decide) 1 _, h.2.2⟩
theorem RCAt.put {w : World} {B g : Nat} {v v1 : Value} {s : Int} {xs : List Int} (hb : w.heap[g]? = some (.cells #[v, .int .i64 s] 63 (0, 0))) (hr : IntsAt w B v1 xs) (hB : B ≤ g) : RCAt (w.setCell ⟨g, 0, none⟩ v1) B g v1 xs s :=
  ⟨blk_put hb 0 v1 rfl, hr.set hb (by decide) 0 v1, hB⟩
theorem RCAt.grown {W w1 : World} {B g : Nat} {v : Value} {c : List Int} {s : Int} (h : RCAt W B g v c s) (hg : W.grownBy w1 v.ownBlock) : w1.heap[g]? = some (.cells #[v, .int .i64 s] 63 (0, 0)) := by
  rw [hg.block g h.lt (fun e => ?_)]
  · exact h.1
  · exact (Kd.R_ne h.2.1.all h.1 (by decide)) e
/-- A number of the row is turned: the block of the state stays. -/
theorem RCAt.store {w : World} {B g b n cap : Nat} {c : List Int} {s : Int} (h : RCAt w B g (.slice (some ⟨b, 0, none⟩) n cap) c s) (i : Nat) (y : Int) : RCAt (w.setCell ⟨b, i, none⟩ (.int .i64 y)) B g (.slice (some ⟨b, 0, none⟩) n cap) (c.set i y) s := by
  have hne : g ≠ b := fun e => (Kd.R_ne h.2.1.all h.1 (by decide)) (by rw [e]; rfl)
  exact ⟨blk_far (p := ⟨b, i, none⟩) h.1 hne _, h.2.1.store i y, h.2.2⟩
theorem Moved.row {B g b n c : Nat} {w w1 : World} {v : Value} (h : Moved B g w v w1 v) (hv : v = .slice (some ⟨b, 0, none⟩) n c) (hB : B ≤ b) (j : Nat) (u : Value) : Moved B g w v (w1.setCell ⟨b, j, none⟩ u) v :=
  ⟨h.below.setCell (p := ⟨b, j, none⟩) hB u, h.kept.setCell (p := ⟨b, j, none⟩) (.inl (.inr (by rw [hv]; rfl))) u, h.own⟩
section
variable {ops : Array Oper} {o : Oper} {a : Act} {Q : Exit → Act → World → Prop} {rest : List Oper}
theorem app_ints {w0 W : World} {B : Nat} (s x : Operand) (y : Int) {v : Value} {xs : List Int} (hgd : o.guard = none)
    (ho : o.op = .call { callee := .builtin .append, args := #[s, x], argTypes := #[25, 25] }) (hs : a.eval s = v) (hx : a.eval x = .slice (some ⟨W.heap.size, 0, none⟩) 1 1)
    (HO : IntsAt W B v xs) (HB : Below B w0 W) (hB : B ≤ W.heap.size) (hl : xs.length < 17592186044415)
    (h : ∀ v1 w1, Aside0 (IntsAt w1 B v1 (xs ++ [y])) → Aside0 (Below B w0 w1) → Aside0 (W.grownBy w1 v.ownBlock) → Aside0 (v1.ownBlock = v.ownBlock ∨ ∃ b, v1.ownBlock = some b ∧ W.heap.size ≤ b) → wpList Try.prog ops Q rest (a.put o.dst v1) w1) :
    wpList Try.prog ops Q (o :: rest) a (W.alloc (.cells #[.int .i64 y] 3)) :=
  Kd.R_append (Kd.int .i64) (w0 := w0) B hgd s x 25 3 (.int .i64 0) 8 ho Try.underlying25 infoI rfl (by decide) (by omega) v xs y [.int .i64 y] (fun _ => True) (fun _ => False) hs hx rfl (fun _ hk => hk.elim)
    (fun _ _ => trivial) HO.all HB hB (by omega) (fun v1 w1 h1 h2 h3 h4 => h v1 w1 ⟨.of h1⟩ ⟨h2⟩ ⟨h3⟩ ⟨h4⟩)
end
theorem rcnew_at (w : World) : RCAt (w.alloc (.cells #[.slice none 0 0, .int .i64 42] 63)) w.heap.size w.heap.size (.slice none 0 0) [] 42 := ⟨blk_new w _, IntsAt.nil _ _, Nat.le_refl _⟩
set_option maxHeartbeats 4000000 in
set_option maxRecDepth 100000 in
theorem rbegin_any (w : World) :
    Calls Try.prog 27 #[] w fun e w' => e = .returned (.pointer (some ⟨w.heap.size, 0, none⟩)) ∧ ∃ v, RCAt w' w.heap.size w.heap.size v ones 42 ∧ Below w.heap.size w w' := by
  have hup := Try.underlying59
  have H0 := Aside0.mk (rcnew_at w)
  have HB0 : Aside0 (Below w.heap.size w (w.alloc (.cells #[.slice none 0 0, .int .i64 42] 63))) := ⟨below_alloc (Below.refl _ _) _⟩
  go_enter Try.func27, Try.ntmps27
  go_wp2
  generalize w.alloc (.cells #[.slice none 0 0, .int .i64 42] 63) = w1 at H0 HB0 ⊢
  obtain ⟨g, hg⟩ : ∃ g, w.heap.size = g := ⟨_, rfl⟩
  have HG := Aside0.mk hg
  rw [hg] at H0 HB0 ⊢
  clear hg
  go_loopw [2] (fun iv wr => ∃ (i : Nat) (v : Value), i ≤ 42 ∧ iv = .int .i64 i ∧ Aside0 (RCAt wr g g v (List.replicate i 1) 42) ∧ Aside0 (Below g w wr)) (fun iv _ => 42 - (intOf iv).toNat)
  case atStart => exact ⟨0, _, by omega, rfl, H0, HB0⟩
  case round =>
    clear H0 HB0
    obtain ⟨i, v, hi, rfl, HC, HB⟩ := hrel
    by_cases hlt : i < 42
    · have i1 : (i : Int) < 42 := by omega
      have c0 : wr.cell? ⟨g, 0, none⟩ = some v := HC.out.cell 0
      have hgl : g ≤ wr.heap.size := Nat.le_of_lt HC.out.lt
      have hlen : (List.replicate i (1 : Int)).length < 17592186044415 := by rw [List.length_replicate]; omega
      go_wp2_with (at_builtin; (with_reducible refine app_ints (w0 := w) (B := g) (v := v) (xs := List.replicate i 1) (.tmp 13) (.tmp 14) 1 ?_ ?_ ?_ ?_ ?_ ?_ ?_ ?_ ?_); rfl; rfl; rfl; rfl; exact HC.out.2.1; exact HB.out; exact hgl; exact hlen; intro v1 w4 HO4 HB4 HG4 HV4; have hb4 := HC.out.grown HG4.out; have c04 : w4.cell? ⟨g, 0, none⟩ = some v := blk_cell hb4 0; have f04 := blk_frozen hb4 0; obtain ⟨A1, k1, e1, _, _⟩ := HO4.out.C; rw [List.length_append, List.length_replicate] at e1; subst e1)
      go_roundw
      case rel => exact ⟨i + 1, _, by omega, by go_num, ⟨by rw [List.replicate_succ']; exact RCAt.put hb4 HO4.out (Nat.le_refl _)⟩, ⟨HB4.out.setCell (p := ⟨g, 0, none⟩) (Nat.le_refl _) _⟩⟩
      case measure => simp [intOf]; omega
    · have hi2 : i = 42 := by omega
      have n1 : ¬ (i : Int) < 42 := by omega
      rw [hi2] at HC
      clear hi2
      go_wp2
      go_ret
      rw [HG.out]
      exact ⟨rfl, ⟨v, HC.out⟩, HB.out⟩
set_option maxHeartbeats 4000000 in
set_option maxRecDepth 100000 in
theorem rbelow_any (c : List Int) (s : Int) (hs : Small c) (hl : c.length = 42) (k : Nat) (hk : k ≤ 42) (B g : Nat) (v : Value) (w : World) (h : RCAt w B g v c s) :
    Calls Try.prog 30 #[.pointer (some ⟨g, 0, none⟩), .int .i64 k] w fun e w' => e = .returned (.int .i64 (belowC c k)) ∧ w = w' := by
  have hup := Try.underlying59
  have c0 : w.cell? ⟨g, 0, none⟩ = some v := h.cell 0
  obtain ⟨b, cap, rfl, hcap, hcl, hfr, hB, hbl⟩ := h.2.1.place 0 (by omega)
  rw [hl] at c0 hcap hcl
  have HCL := Aside0.mk hcl
  have HS := Aside0.mk hs
  clear h hcl hfr hs
  go_enter Try.func30, Try.ntmps30
  go_wp2
  go_loopw [5, 6] (fun nv iv wr => ∃ i : Nat, i ≤ k ∧ iv = .int .i64 i ∧ nv = .int .i64 (belowC c i) ∧ wr = w) (fun _ iv _ => k - (intOf iv).toNat)
  case atStart => exact ⟨0, Nat.zero_le _, rfl, rfl, rfl⟩
  case round =>
    obtain ⟨i, hi, rfl, rfl, rfl⟩ := hrel
    by_cases hlt : i < k
    · have i0 : (0 : Int) ≤ (i : Int) := by omega
      have i1 : (i : Int) < (k : Int) := by omega
      have i2 : (i : Int) < 42 := by omega
      have cI : wr.cell? ⟨b, i, none⟩ = some (.int .i64 (c.getD i 0)) := HCL.out i (by omega)
      have hn : belowC c (i + 1) = belowC c i + c.getD i 0 := rfl
      have hb := belowC_in c HS.out i
      have hc := HS.out i
      have e1 : IntKind.i64.wrap (belowC c i + c.getD i 0) = belowC c (i + 1) := by rw [hn, IntKind.wrap_i64]; omega
      clear hn hb hc
      generalize belowC c i = q at e1 ⊢
      obtain ⟨b2, hb2⟩ : ∃ b2, belowC c (i + 1) = b2 := ⟨_, rfl⟩
      rw [hb2] at e1
      have HB2 := Aside0.mk hb2
      clear hb2
      generalize c.getD i 0 = y at e1 cI
      go_wp2
      go_roundw
      case rel => exact ⟨i + 1, by omega, by go_num, by rw [HB2.out], by trivial⟩
      case measure => simp [intOf]; omega
    · obtain rfl : i = k := by omega
      go_wp2
      go_ret
      exact ⟨rfl, rfl⟩
end Go.Proofs.Ytoologbaoifheaa.Hand
/- Contracts of layer 19, proved by hand: the reference's classes, pieces; a class is seen. -/
namespace Go.Proofs.Ytoologbaoifheaa.Hand
open Go.RowKit Go.Proofs.Ytoologbaoifheaa.Q Go.Proofs.Ytoologbaoifheaa.Math Go.Proofs.YtoologbaoifheaaW.PrintWords Go.Proofs.YtoologbaoifheaaW.PrintLast Go.Proofs.YtoologbaoifheaaW.PrintMore
set_option linter.unusedVariables false
set_option linter.unusedSimpArgs false

theorem rclass_eq : ∀ (f u c : Nat), u < 2 ^ f → u < 2 ^ 62 → c + f ≤ 1000 → lacquerref19_class.l0 (f + 1) (u : Int) (c : Int) = some ((c + blenF f u : Nat) : Int)
  | 0, u, c, h, h2, hc => by
    have : u = 0 := by simpa using h
    subst this
    rw [lacquerref19_class.l0.eq_2, if_neg (by decide)]
    rfl
  | f + 1, u, c, h, h2, hc => by
    rw [lacquerref19_class.l0.eq_2]
    unfold blenF
    by_cases h0 : u = 0
    · subst h0
      rw [if_neg (by decide), if_pos rfl]
      rfl
    · rw [if_pos (by omega), if_neg h0, wrap_id _ (by omega) (by omega), show (u : Int) / 2 = ((u / 2 : Nat) : Int) by omega, show (c : Int) + 1 = ((c + 1 : Nat) : Int) by omega]
      rw [rclass_eq f (u / 2) (c + 1) (by rw [Nat.pow_succ] at h; omega) (by omega) (by omega)]
      congr 2
      omega
theorem RClass_any (u : Nat) (hu : u < 2 ^ 41) (w : World) : Calls Try.prog 28 #[.int .i64 u] w fun e w' => e = .returned (.int .i64 (blen u)) ∧ Drawn0 w w' := by
  refine lacquerref19_class.calls 65 u _ w ?_
  have h := rclass_eq 64 u 0 (Nat.lt_of_lt_of_le hu (by decide)) (Nat.lt_of_lt_of_le hu (by decide)) (by decide)
  rw [Nat.zero_add] at h
  exact h
/-- How the lower bits are cut. -/
def cutL (n : Nat) : List Int := (if n % 16 = 0 then [] else [((n % 16 : Nat) : Int)]) ++ List.replicate (n / 16) 16
theorem cutL_cons (n : Nat) (h : 0 < n) : cutL n = (((n - 1) % 16 + 1 : Nat) : Int) :: cutL (n - ((n - 1) % 16 + 1)) := by
  unfold cutL
  by_cases h0 : n % 16 = 0
  · obtain ⟨m, hm⟩ : ∃ m, n / 16 = m + 1 := ⟨n / 16 - 1, by omega⟩
    rw [if_pos h0, show (n - 1) % 16 + 1 = 16 by omega, if_pos (by omega), hm, show (n - 16) / 16 = m by omega, List.replicate_succ]
    rfl
  · rw [if_neg h0, show (n - 1) % 16 + 1 = n % 16 by omega, if_pos (by omega), show (n - n % 16) / 16 = n / 16 by omega]
    rfl
theorem cutL_nil (n : Nat) (h : cutL n = []) : n = 0 := by
  rcases Nat.eq_zero_or_pos n with h0 | h0
  · exact h0
  · rw [cutL_cons n h0] at h
    cases h
theorem cutL_few : ∀ n, n < 42 → (cutL n).length ≤ 3 := by decide
theorem pieces_eq : ∀ n : Nat, n < 42 → lacquerref19_pieces.f 10 ((n : Int) - 1) = some (cutL (n - 1)) := by decide +kernel
theorem RPieces_any (n : Nat) (h : n < 42) (w : World) : Calls Try.prog 31 #[.int .i64 ((n : Int) - 1)] w fun e w' => ∃ v, e = .returned v ∧ IntsAt w' w.heap.size v (cutL (n - 1)) ∧ Below w.heap.size w w' := by
  refine (lacquerref19_pieces.calls 10 _ _ w (pieces_eq n h)).mono ?_
  rintro e w' ⟨v, h1, h2, h3⟩
  exact ⟨v, h1, .of h2, h3⟩
theorem IntsAt.lower {w : World} {B B2 : Nat} {v : Value} {xs : List Int} (h : IntsAt w B v xs) (hb : B2 ≤ B) : IntsAt w B2 v xs := Kd.R_lower h hb
theorem RCAt.lower {w : World} {B B2 g : Nat} {v : Value} {c : List Int} {s : Int} (h : RCAt w B g v c s) (hb : B2 ≤ B) : RCAt w B2 g v c s := ⟨h.1, h.2.1.lower hb, Nat.le_trans hb h.2.2⟩
theorem rbelow_still (c : List Int) (s : Int) (hs : Small c) (hl : c.length = 42) (k : Nat) (hk : k ≤ 42) (B g : Nat) (v : Value) (w : World) (h : RCAt w B g v c s) :
    Calls Try.prog 30 #[.pointer (some ⟨g, 0, none⟩), .int .i64 k] w fun e w' => e = .returned (.int .i64 (belowC c k)) ∧ w' = w := (rbelow_any c s hs hl k hk B g v w h).mono fun _ _ h => ⟨h.1, h.2.symm⟩
theorem halfTo_high (c : List Int) (i : Nat) (h : c.length = 42) (hi : i < 42) : (halfTo c i).getD i 0 = c.getD i 0 := by
  unfold halfTo
  have hl2 : ((c.take i).map (fun x => (x + 1) / 2)).length = i := by rw [List.length_map, List.length_take]; omega
  rw [List.getD_eq_getElem?_getD, List.getElem?_append_right (by omega), hl2, List.getElem?_drop, show i + (i - i) = i by omega, List.getD_eq_getElem?_getD]
set_option maxHeartbeats 8000000 in
set_option maxRecDepth 100000 in
theorem grow_any (c : List Int) (s : Int) (hs : Small c) (hl : c.length = 42) (x : Nat) (hx : x < 42) (hy2 : c.getD x 0 ≤ 65504) (s0 : 0 ≤ s) (s1 : s ≤ 65536) (B g : Nat) (v : Value) (w : World) (h : RCAt w B g v c s) :
    Calls Try.prog 33 #[.pointer (some ⟨g, 0, none⟩), .int .i64 x] w fun e w' => e = .returned (.tuple #[]) ∧ RCAt w' B g v (sawC c s x).1 (sawC c s x).2 ∧ Moved B g w v w' v := by
  have hup := Try.underlying59
  have x0 : (0 : Int) ≤ (x : Int) := by omega
  have x1 : (x : Int) < 42 := by omega
  have c0 : w.cell? ⟨g, 0, none⟩ = some v := h.cell 0
  obtain ⟨b, cap, hv, hcap, hcl, hfr, hB, hbl⟩ := h.2.1.place 0 (by omega)
  rw [hl] at hv hcap hcl
  have cX : w.cell? ⟨b, x, none⟩ = some (.int .i64 (c.getD x 0)) := hcl x hx
  have fX := hfr x
  have cS : w.cell? ⟨g, 1, none⟩ = some (.int .i64 s) := h.cell 1
  have fS : w.frozen? ⟨g, 1, none⟩ = false := blk_frozen h.1 1
  have hgb : g ≠ b := fun e => (Kd.R_ne h.2.1.all h.1 (by decide)) (by rw [e, hv]; rfl)
  have hcx := hs x
  have HSW : Aside0 (sawC c s x = if s + 32 ≤ 32768 then (c.set x (c.getD x 0 + 32), s + 32) else ((c.set x (c.getD x 0 + 32)).map (fun x => (x + 1) / 2), belowC ((c.set x (c.getD x 0 + 32)).map (fun x => (x + 1) / 2)) 42)) := ⟨rfl⟩
  have HS2 := Aside0.mk (hs.set x (c.getD x 0 + 32) (by omega) (by omega))
  obtain ⟨y, hy⟩ : ∃ y, c.getD x 0 = y := ⟨_, rfl⟩
  rw [hy] at cX hcx HSW HS2 hy2
  have e1 : IntKind.i64.wrap (y + 32) = y + 32 := by rw [IntKind.wrap_i64]; omega
  have e2 : IntKind.i64.wrap (s + 32) = s + 32 := by rw [IntKind.wrap_i64]; omega
  subst hv
  have HC1 := Aside0.mk (h.store x (y + 32))
  have HM1 := Aside0.mk ((Moved.refl B g w (.slice (some ⟨b, 0, none⟩) 42 cap)).row rfl hB x (.int .i64 (y + 32)))
  have HLN : Aside0 ((c.set x (y + 32)).length = 42) := ⟨by rw [List.length_set]; exact hl⟩
  obtain ⟨d, hd⟩ : ∃ d, c.set x (y + 32) = d := ⟨_, rfl⟩
  rw [hd] at HC1 HSW HS2 HLN
  obtain ⟨r, hr⟩ : ∃ r, sawC c s x = r := ⟨_, rfl⟩
  rw [hr] at HSW ⊢
  have HB := Aside0.mk hB
  have HBG := Aside0.mk h.2.2
  clear h hs hd hcx hy hr hy2 hcl hfr hl hB
  by_cases hle : s + 32 ≤ 32768
  · have hr2 : r = (d, s + 32) := HSW.out.trans (if_pos hle)
    have HR := Aside0.mk hr2
    have hgt : ¬ 32768 < s + 32 := by omega
    clear hr2 HSW hle
    go_enter Try.func33, Try.ntmps33
    go_wp2
    refine bodyPost_end (results_none rfl _ _ _) rfl ?_
    rw [HR.out]
    exact ⟨rfl, HC1.out.setSum (s + 32), HM1.out.set HBG.out 1 _⟩
  · have hr2 : r = (d.map (fun x => (x + 1) / 2), belowC (d.map (fun x => (x + 1) / 2)) 42) := HSW.out.trans (if_neg hle)
    have HR := Aside0.mk hr2
    have hgt : 32768 < s + 32 := by omega
    have HC3 := Aside0.mk ((HC1.out.setSum (s + 32)).setSum 0)
    have HM3 := Aside0.mk ((HM1.out.set HBG.out 1 (.int .i64 (s + 32))).set HBG.out 1 (.int .i64 0))
    clear hr2 HSW hle HC1 HM1
    go_enter Try.func33, Try.ntmps33
    go_wp2
    clear c0 cX fX cS fS
    generalize ((w.setCell ⟨b, x, none⟩ (.int .i64 (y + 32))).setCell ⟨g, 1, none⟩ (.int .i64 (s + 32))).setCell ⟨g, 1, none⟩ (.int .i64 0) = w3 at HC3 HM3 ⊢
    go_loopw [4] (fun iv wr => ∃ i : Nat, i ≤ 42 ∧ iv = .int .i64 i ∧ Aside0 (RCAt wr B g (.slice (some ⟨b, 0, none⟩) 42 cap) (halfTo d i) (belowC (halfTo d i) i)) ∧ Aside0 (Moved B g w (.slice (some ⟨b, 0, none⟩) 42 cap) wr (.slice (some ⟨b, 0, none⟩) 42 cap))) (fun iv _ => 42 - (intOf iv).toNat)
    case atStart => exact ⟨0, by omega, rfl, by simpa [halfTo, belowC] using HC3, HM3⟩
    case round =>
      clear HC3 HM3
      obtain ⟨i, hi, rfl, HC, HM⟩ := hrel
      by_cases hlt : i < 42
      · have i0 : (0 : Int) ≤ (i : Int) := by omega
        have i1 : (i : Int) < 42 := by omega
        have hz := HS2.out i
        have hset := halfTo_next d i HLN.out hlt
        have hbn := below_next d i HLN.out hlt
        have hbb : 0 ≤ belowC (halfTo d i) i ∧ belowC (halfTo d i) i ≤ 65536 * i := belowC_in _ (half_small HLN.out HS2.out i (by omega)) i
        have hpl := HC.out.2.1.place 0 (by rw [halfTo_length d i HLN.out]; decide)
        rw [halfTo_length d i HLN.out] at hpl
        obtain ⟨b2, cap2, he, _, hcl, hfr, _, _⟩ := hpl
        injection he with he1 _ he2
        injection he1 with he1
        injection he1 with he1
        subst he1 he2
        have c0 : wr.cell? ⟨g, 0, none⟩ = some (.slice (some ⟨b, 0, none⟩) 42 cap) := HC.out.cell 0
        have cI : wr.cell? ⟨b, i, none⟩ = some (.int .i64 (d.getD i 0)) := by rw [hcl i hlt, halfTo_high d i HLN.out hlt]
        have fI := hfr i
        clear hcl hfr
        obtain ⟨z, hzz⟩ : ∃ z, d.getD i 0 = z := ⟨_, rfl⟩
        rw [hzz] at hz hset hbn cI
        have HZK := Aside0.mk hzz
        clear hzz
        obtain ⟨z2, hz2⟩ : ∃ z2, (z + 1) / 2 = z2 := ⟨_, rfl⟩
        rw [hz2] at hset hbn
        have HZ2K := Aside0.mk hz2
        have q1 : IntKind.i64.wrap (z + 1) = z + 1 := by rw [IntKind.wrap_i64]; omega
        have q2 : (z + 1).tdiv 2 = z2 := by rw [Int.tdiv_eq_ediv_of_nonneg (by omega)]; omega
        have q3 : IntKind.i64.wrap z2 = z2 := by rw [IntKind.wrap_i64]; omega
        have HC1 := Aside0.mk ((HC.out.below (below_drew (Below.refl _ _))).store i z2)
        rw [hset] at HC1
        have HM1 := Aside0.mk (HM.out.drew.row rfl HB.out i (.int .i64 z2))
        obtain ⟨t, ht⟩ : ∃ t, belowC (halfTo d i) i = t := ⟨_, rfl⟩
        rw [ht] at hbn hbb HC1
        have q4 : IntKind.i64.wrap (t + z2) = t + z2 := by rw [IntKind.wrap_i64]; omega
        have HBN := Aside0.mk hbn
        clear hbn hbb hset hz hz2 ht HC HM
        go_wp2
        go_still_tail 15, (by kernel_rfl)
        have cI2 : wr.drew.cell? ⟨b, i, none⟩ = some (.int .i64 z) := cI
        have fI2 : wr.drew.frozen? ⟨b, i, none⟩ = false := fI
        clear cI fI c0
        change wpList _ _ _ _ _ wr.drew
        generalize wr.drew = wz at HC1 HM1 cI2 fI2 ⊢
        go_wp2
        clear cI2 fI2
        generalize wz.setCell ⟨b, i, none⟩ (.int .i64 z2) = w8 at HC1 HM1 ⊢
        have hpl := HC1.out.2.1.place 0 (by rw [halfTo_length d (i + 1) HLN.out]; decide)
        rw [halfTo_length d (i + 1) HLN.out] at hpl
        obtain ⟨b2, cap2, he, _, hcl, hfr, _, _⟩ := hpl
        injection he with he1 _ he2
        injection he1 with he1
        injection he1 with he1
        subst he1 he2
        have c0 : w8.cell? ⟨g, 0, none⟩ = some (.slice (some ⟨b, 0, none⟩) 42 cap) := HC1.out.cell 0
        have cI : w8.cell? ⟨b, i, none⟩ = some (.int .i64 z2) := by rw [hcl i hlt, halfTo_low d (i + 1) i HLN.out (by omega) (by omega), HZK.out, HZ2K.out]
        have cT : w8.cell? ⟨g, 1, none⟩ = some (.int .i64 t) := HC1.out.cell 1
        clear hcl hfr
        go_still_tail 14, (by kernel_rfl)
        have HC2 := Aside0.mk (HC1.out.below (below_drew (Below.refl _ _)))
        have HM2 := Aside0.mk HM1.out.drew
        have cT2 : w8.drew.cell? ⟨g, 1, none⟩ = some (.int .i64 t) := cT
        have fT2 : w8.drew.frozen? ⟨g, 1, none⟩ = false := blk_frozen HC2.out.1 1
        clear HC1 HM1 cI cT c0
        change wpList _ _ _ _ _ w8.drew
        generalize w8.drew = wz at HC2 HM2 cT2 fT2 ⊢
        go_wp2
        go_roundw
        case rel => exact ⟨i + 1, by omega, by go_num, ⟨by rw [HBN.out]; exact HC2.out.setSum (t + z2)⟩, ⟨HM2.out.set HBG.out 1 _⟩⟩
        case measure => simp [intOf]; omega
      · have hi2 : i = 42 := by omega
        have n1 : ¬ (i : Int) < 42 := by omega
        rw [hi2, halfTo_all d HLN.out] at HC
        clear hi2
        go_wp2
        refine bodyPost_end (results_none rfl _ _ _) rfl ?_
        rw [HR.out]
        exact ⟨rfl, HC.out, HM.out⟩
end Go.Proofs.Ytoologbaoifheaa.Hand
/- Contracts of layer 19, proved by hand: the reference's decoder. -/
namespace Go.Proofs.Ytoologbaoifheaa.Hand
open Go.RowKit Go.Proofs.Ytoologbaoifheaa.Q Go.Proofs.YtoologbaoifheaaW.PrintWords Go.Proofs.YtoologbaoifheaaW.PrintLast Go.Proofs.YtoologbaoifheaaW.PrintMore
set_option linter.unusedVariables false
set_option linter.unusedSimpArgs false

def xdCells (d : Dec) : Array Value := #[.string d.s, .int .i64 d.pos, .int .i64 d.code, .int .i64 d.width, .bool d.bad]
/-- A reference's decoder that lies in block g. -/
def XDAt (w : World) (g : Nat) (d : Dec) : Prop := w.heap[g]? = some (.cells (xdCells d) 77 (0, 0))
theorem XDAt.below {w w' : World} {g : Nat} {d : Dec} (h : XDAt w g d) (hb : Below w.heap.size w w') : XDAt w' g d := blk_below h hb
theorem XDAt.cell {w : World} {g : Nat} {d : Dec} (h : XDAt w g d) (j : Nat) : w.cell? ⟨g, j, none⟩ = (xdCells d)[j]? := blk_cell h j
theorem XDAt.set {w : World} {g : Nat} {d d' : Dec} (h : XDAt w g d) (j : Nat) (u : Value) (hs : (xdCells d).setIfInBounds j u = xdCells d') : XDAt (w.setCell ⟨g, j, none⟩ u) g d' := blk_put h j u hs
set_option maxHeartbeats 4000000 in
set_option maxRecDepth 100000 in
theorem XPeek_any (d : Dec) (t : Int) (g : Nat) (w : World) (h : XDAt w g d) (hg : GoodD d) :
    Calls Try.prog 40 #[.pointer (some ⟨g, 0, none⟩), .int .i64 t] w fun e w' => e = .returned (.tuple #[.int .i64 (peekD d t).1, .int .i64 (peekD d t).2]) ∧ Drawn0 w w' := by
  have hup := Try.underlying74
  have c2 : w.cell? ⟨g, 2, none⟩ = some (.int .i64 d.code) := h.cell 2
  have c3 : w.cell? ⟨g, 3, none⟩ = some (.int .i64 d.width) := h.cell 3
  have c4 : w.cell? ⟨g, 4, none⟩ = some (.bool d.bad) := h.cell 4
  clear h
  by_cases ht : t < 1 ∨ 65536 < t
  · have hp : peekD d t = (0, 1) := by unfold peekD; rw [if_pos ht]
    have HP := Aside0.mk hp
    clear hp
    rcases ht with ht | ht
    · go_enter Try.func40, Try.ntmps40
      go_wp2
      go_ret2
      rw [HP.out]
      exact ⟨rfl, Drawn0.refl _⟩
    · have : ¬ t < 1 := by omega
      go_enter Try.func40, Try.ntmps40
      go_wp2
      go_ret2
      rw [HP.out]
      exact ⟨rfl, Drawn0.refl _⟩
  · have t1 : 1 ≤ t := by omega
    have t2 : t ≤ 65536 := by omega
    cases hb : d.bad with
    | true =>
      have hp : peekD d t = (0, 2) := by unfold peekD; rw [if_neg ht, if_pos hb]
      have HP := Aside0.mk hp
      rw [hb] at c4
      clear hp hb ht
      go_enter Try.func40, Try.ntmps40
      go_wp2
      go_ret2
      rw [HP.out]
      exact ⟨rfl, Drawn0.refl _⟩
    | false =>
      have hp : peekD d t = (if d.code / (d.width / t) ≤ t - 1 then d.code / (d.width / t) else t - 1, 0) := by unfold peekD; rw [if_neg ht, if_neg (by rw [hb]; decide)]
      rw [hb] at c4
      have hw := hg.wid0 hb
      have hw1 := hg.wid1
      have k0 := hg.code0
      have k1 := hg.code1
      have r0 : 1 ≤ d.width / t := by
        have := Int.ediv_le_ediv (show (0 : Int) < t by omega) (show t ≤ d.width by omega)
        rwa [Int.ediv_self (by omega)] at this
      have r1 : ¬ d.width / t = 0 := by omega
      have r3 : d.width / t < 4294967296 := by
        have := Int.ediv_le_self (a := d.width) t (by omega)
        omega
      have q0 : 0 ≤ d.code / (d.width / t) := Int.ediv_nonneg k0 (by omega)
      have q1 : d.code / (d.width / t) < 4294967296 := by
        have := Int.ediv_le_self (a := d.code) (d.width / t) k0
        omega
      clear hb ht hg
      by_cases hq : d.code / (d.width / t) ≤ t - 1
      · rw [if_pos hq] at hp
        have HP := Aside0.mk hp
        clear hp
        go_enter Try.func40, Try.ntmps40
        go_wp2
        go_quiet (fail)
        go_wp2
        all_goals
          first
          | (exfalso; omega)
          | (go_ret2
             rw [HP.out]
             exact ⟨rfl, by repeat (first | exact Drawn0.refl _ | apply Drawn0.step)⟩)
      · rw [if_neg hq] at hp
        have HP := Aside0.mk hp
        clear hp
        go_enter Try.func40, Try.ntmps40
        go_wp2
        go_quiet (fail)
        go_wp2
        all_goals
          first
          | (exfalso; omega)
          | (go_ret2
             rw [HP.out]
             exact ⟨rfl, by repeat (first | exact Drawn0.refl _ | apply Drawn0.step)⟩)
set_option maxHeartbeats 4000000 in
set_option maxRecDepth 100000 in
theorem XTake_no (d : Dec) (f n t : Int) (hm : ¬ mayP f n t) (B g : Nat) (hB : B ≤ g) (w : World) (h : XDAt w g d) :
    Calls Try.prog 41 #[.pointer (some ⟨g, 0, none⟩), .int .i64 f, .int .i64 n, .int .i64 t] w fun e w' => e = .returned (.int .i64 1) ∧ XDAt w' g d ∧ Turned B g w w' := by
  have hup := Try.underlying74
  have HM := Aside0.mk hm
  have HD := Aside0.mk h
  clear hm h
  go_enter Try.func41, Try.ntmps41
  go_wp2_with fail
  refine (rmay_no f n t HM.out _).mono ?_
  rintro e w1 ⟨rfl, ⟨m, rfl⟩⟩
  go_wp2
  go_ret
  exact ⟨rfl, HD.out.below (pw_below_drewN (Below.refl _ _) m), (Turned.refl B g w).drewN m⟩
set_option maxHeartbeats 4000000 in
set_option maxRecDepth 100000 in
theorem XTake_bad (d : Dec) (f n t : Int) (hm : mayP f n t) (hg : GoodD d) (hb : d.bad = true) (B g : Nat) (hB : B ≤ g) (w : World) (h : XDAt w g d) :
    Calls Try.prog 41 #[.pointer (some ⟨g, 0, none⟩), .int .i64 f, .int .i64 n, .int .i64 t] w fun e w' => e = .returned (.int .i64 2) ∧ XDAt w' g d ∧ Turned B g w w' := by
  have hup := Try.underlying74
  have HM := Aside0.mk hm
  have HD := Aside0.mk h
  have hp : peekD d t = (0, 2) := by unfold peekD; rw [if_neg (by obtain ⟨m1, m2, m3⟩ := hm; omega), if_pos hb]
  have HP := Aside0.mk hp
  have HG := Aside0.mk hg
  clear hm h hp hg hb
  go_enter Try.func41, Try.ntmps41
  go_wp2_with fail
  refine (rmay_yes f n t HM.out _).mono ?_
  rintro e w1 ⟨rfl, ⟨m, rfl⟩⟩
  go_wp2_with fail
  refine (XPeek_any d t g _ (HD.out.below (pw_below_drewN (Below.refl _ _) m)) HG.out).mono ?_
  rintro e w2 ⟨rfl, ⟨m2, rfl⟩⟩
  rw [HP.out]
  go_wp2
  go_ret
  exact ⟨rfl, HD.out.below (pw_below_drewN (Below.refl _ _) (m + m2)), (Turned.refl B g w).drewN (m + m2)⟩
set_option maxHeartbeats 4000000 in
set_option maxRecDepth 100000 in
theorem XTake_else (d : Dec) (f n t : Int) (hm : mayP f n t) (hg : GoodD d) (hb : d.bad = false) (h1 : (peekD d t).1 < f ∨ n ≤ (peekD d t).1 - f) (B g : Nat) (hB : B ≤ g) (w : World) (h : XDAt w g d) :
    Calls Try.prog 41 #[.pointer (some ⟨g, 0, none⟩), .int .i64 f, .int .i64 n, .int .i64 t] w fun e w' => e = .returned (.int .i64 2) ∧ XDAt w' g d ∧ Turned B g w w' := by
  have hup := Try.underlying74
  have HM := Aside0.mk hm
  have HD := Aside0.mk h
  have hp := (peek_fine d f n t hb hm).1
  have HG := Aside0.mk hg
  have hk := XPeek_any d t g
  rw [hp] at hk
  obtain ⟨x, hx⟩ : ∃ x, (peekD d t).1 = x := ⟨_, rfl⟩
  rw [hx] at hk h1
  have hx0 : 0 ≤ x ∧ x < 65536 := by
    have hc := (peek_fine d f n t hb hm).2
    obtain ⟨m1, m2, m3, m4, m5, m6⟩ := hm
    have k0 := hg.code0
    have hw := hg.wid0 hb
    have hq : 0 ≤ d.code / (d.width / t) := Int.ediv_nonneg k0 (Int.ediv_nonneg (by omega) (by omega))
    have hx1 : (peekD d t).1 ≤ t - 1 := by
      unfold peekD
      rw [if_neg (by omega), if_neg (by rw [hb]; decide)]
      show (if d.code / (d.width / t) ≤ t - 1 then d.code / (d.width / t) else t - 1) ≤ _
      split <;> omega
    omega
  have HK := Aside0.mk hk
  obtain ⟨x0, x1⟩ := hx0
  obtain ⟨m1, m2, m3, m4, m5, m6⟩ := hm
  clear h hp hg hb hk hx
  have hfn : wrap64 (f + n) = f + n := wrap_id _ (by omega) (by omega)
  rcases h1 with h1 | h1
  · go_enter Try.func41, Try.ntmps41
    go_wp2_with fail
    refine (rmay_yes f n t HM.out _).mono ?_
    rintro e w1 ⟨rfl, ⟨m, rfl⟩⟩
    go_wp2_with fail
    refine (HK.out _ (HD.out.below (pw_below_drewN (Below.refl _ _) m)) HG.out).mono ?_
    rintro e w2 ⟨rfl, ⟨m2, rfl⟩⟩
    go_wp2
    go_ret
    exact ⟨rfl, HD.out.below (pw_below_drewN (Below.refl _ _) (m + m2)), (Turned.refl B g w).drewN (m + m2)⟩
  · have h1' : f + n ≤ x := by omega
    by_cases h2 : x < f
    · go_enter Try.func41, Try.ntmps41
      go_wp2_with fail
      refine (rmay_yes f n t HM.out _).mono ?_
      rintro e w1 ⟨rfl, ⟨m, rfl⟩⟩
      go_wp2_with fail
      refine (HK.out _ (HD.out.below (pw_below_drewN (Below.refl _ _) m)) HG.out).mono ?_
      rintro e w2 ⟨rfl, ⟨m2, rfl⟩⟩
      go_wp2
      go_ret
      exact ⟨rfl, HD.out.below (pw_below_drewN (Below.refl _ _) (m + m2)), (Turned.refl B g w).drewN (m + m2)⟩
    · go_enter Try.func41, Try.ntmps41
      go_wp2_with fail
      refine (rmay_yes f n t HM.out _).mono ?_
      rintro e w1 ⟨rfl, ⟨m, rfl⟩⟩
      go_wp2_with fail
      refine (HK.out _ (HD.out.below (pw_below_drewN (Below.refl _ _) m)) HG.out).mono ?_
      rintro e w2 ⟨rfl, ⟨m2, rfl⟩⟩
      go_wp2
      go_ret
      exact ⟨rfl, HD.out.below (pw_below_drewN (Below.refl _ _) (m + m2)), (Turned.refl B g w).drewN (m + m2)⟩
set_option maxHeartbeats 4000000 in
set_option maxRecDepth 100000 in
theorem XTake_on (d : Dec) (f n t : Int) (hm : mayP f n t) (hg : GoodD d) (hb : d.bad = false) (h1 : ¬ ((peekD d t).1 < f ∨ n ≤ (peekD d t).1 - f)) (hsz : d.s.size ≤ 9223372036854775807) (B g : Nat) (hB : B ≤ g) (w : World) (h : XDAt w g d) :
    Calls Try.prog 41 #[.pointer (some ⟨g, 0, none⟩), .int .i64 f, .int .i64 n, .int .i64 t] w fun e w' => e = .returned (.int .i64 (onD f n t d).1) ∧ XDAt w' g (onD f n t d).2 ∧ Turned B g w w' := by
  have hup := Try.underlying74
  have HM := Aside0.mk hm
  have HD := Aside0.mk h
  have hp := (peek_fine d f n t hb hm).1
  have HG := Aside0.mk hg
  have HMID := Aside0.mk (partD_mid d f n t hg hb hm h1)
  have hle := peek_le d f n t hg hb hm h1
  have hk := XPeek_any d t g
  rw [hp] at hk
  obtain ⟨x, hx⟩ : ∃ x, (peekD d t).1 = x := ⟨_, rfl⟩
  rw [hx] at hk h1
  have HK := Aside0.mk hk
  have hn1 : ¬ x < f := fun h => h1 (.inl h)
  have hn2 : ¬ n ≤ x - f := fun h => h1 (.inr h)
  have hn3 : ¬ f + n ≤ x := by omega
  obtain ⟨m1, m2, m3, m4, m5, m6⟩ := hm
  have hw := hg.wid0 hb
  have ww0 := hg.wid1
  have k0 := hg.code0
  have k1 := hg.code1
  have x1 : x < 65536 := by omega
  have x0 : 0 ≤ x := by omega
  clear h hp hg hk hx h1
  go_enter Try.func41, Try.ntmps41
  go_wp2_with fail
  refine (rmay_yes f n t HM.out _).mono ?_
  rintro e w1 ⟨rfl, ⟨m, rfl⟩⟩
  go_wp2_with fail
  refine (HK.out _ (HD.out.below (pw_below_drewN (Below.refl _ _) m)) HG.out).mono ?_
  rintro e w2 ⟨rfl, ⟨q, rfl⟩⟩
  have HD2 : Aside0 (XDAt ((w.drewN m).drewN q) g d) := ⟨(HD.out.below (pw_below_drewN (Below.refl _ _) m)).below (pw_below_drewN (Below.refl _ _) q)⟩
  have HT2 : Aside0 (Turned B g w ((w.drewN m).drewN q)) := ⟨((Turned.refl B g w).drewN m).drewN q⟩
  generalize (w.drewN m).drewN q = wy at HD2 HT2 ⊢
  have c2 : wy.cell? ⟨g, 2, none⟩ = some (.int .i64 d.code) := HD2.out.cell 2
  have c3 : wy.cell? ⟨g, 3, none⟩ = some (.int .i64 d.width) := HD2.out.cell 3
  have f2 : wy.frozen? ⟨g, 2, none⟩ = false := blk_frozen HD2.out 2
  have f3 : wy.frozen? ⟨g, 3, none⟩ = false := blk_frozen HD2.out 3
  have r0 : 1 ≤ d.width / t := by
    have := Int.ediv_le_ediv (show (0 : Int) < t by omega) (show t ≤ d.width by omega)
    rwa [Int.ediv_self (by omega)] at this
  have r1 : d.width / t * t ≤ d.width := Int.ediv_mul_le _ (by omega)
  have r2 : d.width / t * f + d.width / t * n ≤ d.width / t * t := by
    rw [← Int.mul_add]
    exact Int.mul_le_mul_of_nonneg_left (by omega) (by omega)
  have p0 : 0 ≤ d.width / t * f := Int.mul_nonneg (by omega) m3
  have q0 : 0 ≤ d.width / t * n := Int.mul_nonneg (by omega) (by omega)
  have p1 : d.width / t * f < 4294967296 := by omega
  have q1 : d.width / t * n < 4294967296 := by omega
  have r3 : d.width / t < 4294967296 := by
    have := Int.ediv_le_self (a := d.width) t (by omega)
    omega
  clear r1 r2
  go_wp2
  have HD3 := Aside0.mk ((HD2.out.set (d' := { d with code := d.code - d.width / t * f }) 2 (.int .i64 (d.code - d.width / t * f)) rfl).set (d' := partD f n t d) 3 (.int .i64 (d.width / t * n)) rfl)
  have HT3 := Aside0.mk ((HT2.out.set hB 2 (.int .i64 (d.code - d.width / t * f))).set hB 3 (.int .i64 (d.width / t * n)))
  generalize (wy.setCell ⟨g, 2, none⟩ (.int .i64 (d.code - d.width / t * f))).setCell ⟨g, 3, none⟩ (.int .i64 (d.width / t * n)) = wz at HD3 HT3 ⊢
  have hsd : (partD f n t d).s = d.s := rfl
  have hpe : onD f n t d = normD 3 (partD f n t d) := rfl
  generalize partD f n t d = d1 at HMID HD3 hsd hpe
  have HPE := Aside0.mk hpe
  clear hpe
  have HSD := Aside0.mk hsd
  clear c2 c3 f2 f3 r0 p0 q0 p1 q1 r3 hsd hle hw ww0 k0 k1 x0 x1 hn1 hn2 HK HG HM HD HD2
  go_loopg [] 3 (fun k wr => ∃ (d' : Dec), Aside0 (XDAt wr g d') ∧ Aside0 (Turned B g w wr) ∧ Aside0 (MidD d') ∧ Aside0 (normD k d' = normD 3 d1) ∧ Aside0 (16777216 ≤ d'.width * 256 ^ k) ∧ Aside0 (d'.s = d.s))
  case atStart => exact ⟨d1, HD3, HT3, HMID, ⟨rfl⟩, ⟨by have := HMID.out.wid0; omega⟩, HSD⟩
  case round =>
    obtain ⟨d', HD', HT', HM', HN', HW', HS'⟩ := hrel
    have c0 : wr.cell? ⟨g, 0, none⟩ = some (.string d'.s) := HD'.out.cell 0
    have c1 : wr.cell? ⟨g, 1, none⟩ = some (.int .i64 d'.pos) := HD'.out.cell 1
    have c2 : wr.cell? ⟨g, 2, none⟩ = some (.int .i64 d'.code) := HD'.out.cell 2
    have c3 : wr.cell? ⟨g, 3, none⟩ = some (.int .i64 d'.width) := HD'.out.cell 3
    have c4 : wr.cell? ⟨g, 4, none⟩ = some (.bool d'.bad) := HD'.out.cell 4
    have f1 : wr.frozen? ⟨g, 1, none⟩ = false := blk_frozen HD'.out 1
    have f2 : wr.frozen? ⟨g, 2, none⟩ = false := blk_frozen HD'.out 2
    have f3 : wr.frozen? ⟨g, 3, none⟩ = false := blk_frozen HD'.out 3
    have f4 : wr.frozen? ⟨g, 4, none⟩ = false := blk_frozen HD'.out 4
    have v0 := HM'.out.wid0
    have v1 := HM'.out.wid1
    have v2 := HM'.out.code0
    have v3 := HM'.out.code1
    have v4 := HM'.out.pos0
    have v5 := HM'.out.pos1
    have v6 : d'.s.size ≤ 9223372036854775807 := by rw [HS'.out]; exact hsz
    by_cases hlt : d'.width / 16777216 = 0
    · have hlt2 : d'.width < 16777216 := by omega
      obtain ⟨k, rfl⟩ : ∃ k, gk = k + 1 := by
        rcases gk with _ | k
        · have := HW'.out
          simp at this
          omega
        · exact ⟨k, rfl⟩
      by_cases hend : d'.pos = (d'.s.size : Int)
      · have hNe : normD 3 d1 = (2, { d' with bad := true }) := by rw [← HN'.out, normD, if_pos hlt, if_pos hend]
        have HNE := Aside0.mk hNe
        have hbe : (d'.pos == (d'.s.size : Int)) = true := by simp [hend]
        clear hNe hend
        go_wp2
        go_quiet (fail)
        go_wp2
        go_ret
        rw [HPE.out, HNE.out]
        refine ⟨rfl, (HD'.out.below (by repeat (first | exact Below.refl _ _ | apply pw_below_drewN))).set 4 _ rfl, ?_⟩
        exact (HT'.out.drawn (by repeat (first | exact Drawn0.refl _ | apply Drawn0.step))).set hB 4 _
      · have hbe : (d'.pos == (d'.s.size : Int)) = false := by simp [hend]
        have HEND := Aside0.mk hend
        obtain ⟨j, hj⟩ : ∃ j : Nat, d'.pos = (j : Int) := ⟨d'.pos.toNat, by omega⟩
        have hjl : j < d'.s.size := by omega
        have hbt := bt_at d'.s j hjl
        have hbl := bt_lt d'.s (j : Nat)
        have hNe : normD k (byteD d') = normD 3 d1 := by rw [← HN'.out, normD, if_pos hlt, if_neg hend]
        have HNE := Aside0.mk hNe
        have HBM := Aside0.mk (byteD_mid d' HM'.out hlt hend)
        have HWW : Aside0 (16777216 ≤ (byteD d').width * 256 ^ k) := ⟨by
          have := HW'.out
          show 16777216 ≤ d'.width * 256 * 256 ^ k
          rw [Int.mul_assoc, Int.mul_comm 256, ← Int.pow_succ]
          exact this⟩
        have HJ := Aside0.mk hj
        have i1 : (j : Int) < (d'.s.size : Int) := by omega
        rw [hj] at c1 hbe v4 v5
        have hand := and_mask_i64 32 (by decide) (d'.code * 256 + bt d'.s (j : Nat)) 4294967295 (by omega) (by omega) rfl
        have hmod : (d'.code * 256 + bt d'.s (j : Nat)) % 2 ^ 32 = d'.code % 16777216 * 256 + bt d'.s (j : Nat) := by
          have : (2 : Int) ^ 32 = 4294967296 := by decide
          rw [this]
          omega
        rw [hmod] at hand
        clear hmod
        obtain ⟨y, hy⟩ : ∃ y, bt d'.s (j : Nat) = y := ⟨_, rfl⟩
        rw [hy] at hand hbt hbl
        obtain ⟨y0, y1⟩ := hbl
        have HY := Aside0.mk hy
        clear hNe hend hj hy
        go_wp2
        go_quiet (fail)
        go_wp2
        have HD4 := Aside0.mk ((HD'.out.below (pw_below_drewN (Below.refl _ _) nq)).set (d' := { d' with width := d'.width * 256 }) 3 (.int .i64 (d'.width * 256)) rfl)
        have HT4 := Aside0.mk ((HT'.out.drewN nq).set hB 3 (.int .i64 (d'.width * 256)))
        generalize (wr.drewN nq).setCell ⟨g, 3, none⟩ (.int .i64 (d'.width * 256)) = wq at HD4 HT4 ⊢
        clear c0 c1 c2 c3 c4 f1 f2 f3 f4
        have c0 : wq.cell? ⟨g, 0, none⟩ = some (.string d'.s) := HD4.out.cell 0
        have c1 : wq.cell? ⟨g, 1, none⟩ = some (.int .i64 (j : Int)) := by rw [← HJ.out]; exact HD4.out.cell 1
        have c2 : wq.cell? ⟨g, 2, none⟩ = some (.int .i64 d'.code) := HD4.out.cell 2
        have f1 : wq.frozen? ⟨g, 1, none⟩ = false := blk_frozen HD4.out 1
        have f2 : wq.frozen? ⟨g, 2, none⟩ = false := blk_frozen HD4.out 2
        go_still_tail 20, (by kernel_rfl)
        have HD5 : Aside0 (XDAt wq.drew g { d' with width := d'.width * 256 }) := ⟨HD4.out.below (below_drew (Below.refl _ _))⟩
        have HT5 : Aside0 (Turned B g w wq.drew) := ⟨HT4.out.drewN 1⟩
        have e1 : wq.drew.cell? ⟨g, 1, none⟩ = some (.int .i64 (j : Int)) := c1
        have e2 : wq.drew.cell? ⟨g, 2, none⟩ = some (.int .i64 d'.code) := c2
        have g1 : wq.drew.frozen? ⟨g, 1, none⟩ = false := f1
        have g2 : wq.drew.frozen? ⟨g, 2, none⟩ = false := f2
        clear c0 c1 c2 f1 f2 HD4 HT4
        change wpList _ _ _ _ _ wq.drew
        generalize wq.drew = wu at HD5 HT5 e1 e2 g1 g2 ⊢
        go_wp2
        go_roundg k
        case measure => omega
        case rel =>
          refine ⟨byteD d', ⟨(HD5.out.set (d' := { d' with width := d'.width * 256, code := d'.code % 16777216 * 256 + y }) 2 _ ?_).set 1 _ ?_⟩, ⟨(HT5.out.set hB 2 _).set hB 1 _⟩, HBM, HNE, HWW, HS'⟩
          · first | rfl | (simp [xdCells]; done)
          · simp [xdCells, byteD, HJ.out, HY.out]
    · have HN2 := Aside0.mk (normD_stop gk d' hlt)
      have hlt2 : ¬ d'.width < 16777216 := by omega
      go_wp2
      go_ret
      rw [HPE.out, ← HN'.out, HN2.out]
      exact ⟨rfl, HD'.out, HT'.out⟩
theorem XTake_any (d : Dec) (f n t : Int) (hg : GoodD d) (hsz : d.s.size ≤ 9223372036854775807) (B g : Nat) (hB : B ≤ g) (w : World) (h : XDAt w g d) :
    Calls Try.prog 41 #[.pointer (some ⟨g, 0, none⟩), .int .i64 f, .int .i64 n, .int .i64 t] w fun e w' => e = .returned (.int .i64 (takeD f n t d).1) ∧ XDAt w' g (takeD f n t d).2 ∧ Turned B g w w' := by
  by_cases hm : mayP f n t
  · cases hb : d.bad with
    | true =>
      have e : takeD f n t d = (2, d) := by unfold takeD; rw [if_pos hm, if_pos hb]
      rw [e]
      exact XTake_bad d f n t hm hg hb B g hB w h
    | false =>
      by_cases h1 : (peekD d t).1 < f ∨ n ≤ (peekD d t).1 - f
      · have e : takeD f n t d = (2, d) := by unfold takeD; rw [if_pos hm, if_neg (by rw [hb]; decide), if_pos h1]
        rw [e]
        exact XTake_else d f n t hm hg hb h1 B g hB w h
      · have e : takeD f n t d = onD f n t d := by unfold takeD; rw [if_pos hm, if_neg (by rw [hb]; decide), if_neg h1]; rfl
        rw [e]
        exact XTake_on d f n t hm hg hb h1 hsz B g hB w h
  · have e : takeD f n t d = (1, d) := by unfold takeD; rw [if_neg hm]
    rw [e]
    exact XTake_no d f n t hm B g hB w h
set_option maxHeartbeats 4000000 in
set_option maxRecDepth 100000 in
theorem XBitsD_any (d : Dec) (k : Int) (hg : GoodD d) (hsz : d.s.size ≤ 9223372036854775807) (B g : Nat) (hB : B ≤ g) (w : World) (h : XDAt w g d) :
    Calls Try.prog 42 #[.pointer (some ⟨g, 0, none⟩), .int .i64 k] w fun e w' => e = .returned (.tuple #[.int .i64 (bitsD k d).1, .int .i64 (bitsD k d).2.1]) ∧ XDAt w' g (bitsD k d).2.2 ∧ Turned B g w w' := by
  have hup := Try.underlying74
  have HD := Aside0.mk h
  have HG := Aside0.mk hg
  clear h hg
  by_cases hk : k < 1 ∨ 16 < k
  · have HE : Aside0 (bitsD k d = (0, 1, d)) := ⟨if_pos hk⟩
    rcases hk with hk | hk
    · go_enter Try.func42, Try.ntmps42
      go_wp2
      go_ret2
      rw [HE.out]
      exact ⟨rfl, HD.out, Turned.refl _ _ _⟩
    · have hk1 : ¬ k < 1 := by omega
      go_enter Try.func42, Try.ntmps42
      go_wp2
      go_ret2
      rw [HE.out]
      exact ⟨rfl, HD.out, Turned.refl _ _ _⟩
  · have k1 : 1 ≤ k := by omega
    have k2 : k ≤ 16 := by omega
    have hle : (2 : Int) ^ k.toNat ≤ 65536 := by
      have h1 : (2 : Int) ^ k.toNat = ((2 ^ k.toNat : Nat) : Int) := by simp
      have h2 : 2 ^ k.toNat ≤ 2 ^ 16 := Nat.pow_le_pow_right (by decide) (by omega)
      rw [h1]
      omega
    have hpos : (0 : Int) < 2 ^ k.toNat := Int.pow_pos (by decide)
    have hwp : wrap64 (2 ^ k.toNat) = 2 ^ k.toNat := wrap_id _ (by omega) (by omega)
    obtain ⟨t, ht⟩ : ∃ t : Int, 2 ^ k.toNat = t := ⟨_, rfl⟩
    rw [ht] at hle hpos
    have hwp2 : wrap64 (2 ^ k.toNat) = t := by rw [hwp, ht]
    have hE : bitsD k d = if d.bad = true then (0, 2, d) else if (takeD (peekD d t).1 1 t d).1 = 0 then ((peekD d t).1, 0, (takeD (peekD d t).1 1 t d).2) else (0, (takeD (peekD d t).1 1 t d).1, (takeD (peekD d t).1 1 t d).2) := by
      unfold bitsD
      rw [if_neg hk, ht]
    cases hb : d.bad with
    | true =>
      rw [if_pos hb] at hE
      have HE := Aside0.mk hE
      have hp : peekD d t = (0, 2) := by unfold peekD; rw [if_neg (by omega), if_pos hb]
      have hpk := XPeek_any d t g w HD.out HG.out
      rw [hp] at hpk
      have HP := Aside0.mk hpk
      clear hE hp hpk ht hwp hb hk
      go_enter Try.func42, Try.ntmps42
      go_wp2_with fail
      refine HP.out.mono ?_
      rintro e w1 ⟨rfl, ⟨m, rfl⟩⟩
      go_wp2
      go_ret2
      rw [HE.out]
      exact ⟨rfl, HD.out.below (pw_below_drewN (Below.refl _ _) m), (Turned.refl B g w).drewN m⟩
    | false =>
      rw [if_neg (by rw [hb]; decide)] at hE
      have hp : (peekD d t).2 = 0 := by unfold peekD; rw [if_neg (by omega), if_neg (by rw [hb]; decide)]
      have hpk := XPeek_any d t g w HD.out HG.out
      rw [hp] at hpk
      have htk := fun W (hW : XDAt W g d) => XTake_any d (peekD d t).1 1 t HG.out hsz B g hB W hW
      obtain ⟨x, hx⟩ : ∃ x, (peekD d t).1 = x := ⟨_, rfl⟩
      rw [hx] at hE hpk htk
      obtain ⟨p, hpp⟩ : ∃ p, takeD x 1 t d = p := ⟨_, rfl⟩
      rw [hpp] at hE htk
      obtain ⟨e2, d2⟩ := p
      have HP := Aside0.mk hpk
      have HT := Aside0.mk htk
      clear hp hpk htk ht hwp hb hk hx hpp
      by_cases h0 : e2 = 0
      · have HE : Aside0 (bitsD k d = (x, 0, d2)) := ⟨by rw [hE]; exact if_pos h0⟩
        subst h0
        clear hE
        go_enter Try.func42, Try.ntmps42
        go_wp2_with fail
        refine HP.out.mono ?_
        rintro e w1 ⟨rfl, ⟨m, rfl⟩⟩
        have HD1 := Aside0.mk (HD.out.below (pw_below_drewN (Below.refl _ _) m))
        have HT1 := Aside0.mk ((Turned.refl B g w).drewN m)
        generalize w.drewN m = w1 at HD1 HT1 ⊢
        go_wp2_with fail
        refine (HT.out _ HD1.out).mono ?_
        rintro e w2 ⟨rfl, hd2, ht2⟩
        have HD2 := Aside0.mk hd2
        have HT2 := Aside0.mk (HT1.out.trans ht2)
        clear hd2 ht2
        go_wp2
        go_ret2
        rw [HE.out]
        exact ⟨rfl, HD2.out, HT2.out⟩
      · have HE : Aside0 (bitsD k d = (0, e2, d2)) := ⟨by rw [hE]; exact if_neg h0⟩
        have hbe : (e2 == 0) = false := by simp [h0]
        have hbn : (e2 != 0) = true := by simp [h0]
        clear hE
        go_enter Try.func42, Try.ntmps42
        go_wp2_with fail
        refine HP.out.mono ?_
        rintro e w1 ⟨rfl, ⟨m, rfl⟩⟩
        have HD1 := Aside0.mk (HD.out.below (pw_below_drewN (Below.refl _ _) m))
        have HT1 := Aside0.mk ((Turned.refl B g w).drewN m)
        generalize w.drewN m = w1 at HD1 HT1 ⊢
        go_wp2_with fail
        refine (HT.out _ HD1.out).mono ?_
        rintro e w2 ⟨rfl, hd2, ht2⟩
        have HD2 := Aside0.mk hd2
        have HT2 := Aside0.mk (HT1.out.trans ht2)
        clear hd2 ht2
        go_wp2
        go_ret2
        rw [HE.out]
        exact ⟨rfl, HD2.out, HT2.out⟩
end Go.Proofs.Ytoologbaoifheaa.Hand
