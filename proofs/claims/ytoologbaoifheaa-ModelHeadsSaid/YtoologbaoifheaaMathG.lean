/- The plain law of layer 19: a thousand noughts have few bytes. -/
import Derived.Test.YtoologbaoifheaaMathF
namespace Go.Proofs.Ytoologbaoifheaa.Math
open Go.RowKit Go.Proofs.Ytoologbaoifheaa.Hand Go.Proofs.YtoologbaoifheaaW.PrintWords Go.Proofs.YtoologbaoifheaaW.PrintLast Go.Proofs.YtoologbaoifheaaW.PrintMore
set_option linter.unusedVariables false
set_option linter.unusedSimpArgs false

/-- An encoder in which nothing but noughts stands. -/
def zE (w m : Nat) : Enc := ⟨0, w, 0, 1, List.replicate m 0⟩
theorem zE_wide (w m : Nat) : wideE (zE w m) = zE (w * 256) (m + 1) := by
  unfold wideE shiftE
  rw [if_pos (.inl (show (0 : Int) < 4278190080 by decide))]
  unfold onE carryE zE carryOut
  simp [List.replicate_succ']
def normZ : Nat → Nat × Nat → Nat × Nat
  | 0, p => p
  | k + 1, p => if p.1 < 16777216 then normZ k (p.1 * 256, p.2 + 1) else p
theorem zE_norm : ∀ (k w m : Nat), normE k (zE w m) = zE (normZ k (w, m)).1 (normZ k (w, m)).2
  | 0, w, m => rfl
  | k + 1, w, m => by
    unfold normE normZ
    by_cases h : w < 16777216
    · rw [if_pos (show (zE w m).width / 16777216 = 0 by show ((w : Int) / 16777216 = 0); omega), if_pos h, zE_wide, zE_norm k]
    · rw [if_neg (show ¬ (zE w m).width / 16777216 = 0 by show ¬ ((w : Int) / 16777216 = 0); omega), if_neg h]
theorem zE_put (n t w m : Nat) : putE 0 n t (zE w m) = zE (normZ 3 (w / t * n, m)).1 (normZ 3 (w / t * n, m)).2 := by
  rw [← zE_norm]
  have e : partE 0 n t (zE w m) = zE (w / t * n) m := by
    unfold partE zE
    simp
  unfold putE
  rw [e]
/-- Counts when so many noughts were seen. -/
def zC (j : Nat) : List Int := ((1 + 32 * j : Nat) : Int) :: List.replicate 41 1
def zS (w m j : Nat) : St := ⟨zE w m, zC j, ((42 + 32 * j : Nat) : Int)⟩
theorem z_step (w m j : Nat) (h : 42 + 32 * (j + 1) ≤ 32768) : stepS (zS w m j) 0 = zS (normZ 3 (w / (42 + 32 * j) * (1 + 32 * j), m)).1 (normZ 3 (w / (42 + 32 * j) * (1 + 32 * j), m)).2 (j + 1) := by
  have h1 : numU 0 = 0 := by decide +kernel
  have h2 : blen 0 = 0 := by decide +kernel
  unfold stepS
  rw [h1, h2]
  have h3 : belowC (zS w m j).c 0 = 0 := rfl
  have h4 : (zS w m j).c.getD 0 0 = ((1 + 32 * j : Nat) : Int) := rfl
  have h5 : (zS w m j).s = ((42 + 32 * j : Nat) : Int) := rfl
  have h6 : (zS w m j).e = zE w m := rfl
  have h7 : sawC (zS w m j).c (zS w m j).s 0 = (zC (j + 1), ((42 + 32 * (j + 1) : Nat) : Int)) := by
    unfold sawC
    rw [h5, if_pos (by omega), h4]
    have e1 : ((1 + 32 * j : Nat) : Int) + 32 = ((1 + 32 * (j + 1) : Nat) : Int) := by omega
    have e2 : ((42 + 32 * j : Nat) : Int) + 32 = ((42 + 32 * (j + 1) : Nat) : Int) := by omega
    rw [e1, e2]
    rfl
  rw [h3, h4, h7, h5, h6, zE_put]
  rfl
def zrun : Nat → Nat → Nat × Nat → Nat × Nat
  | 0, _, p => p
  | f + 1, j, p => zrun f (j + 1) (normZ 3 (p.1 / (42 + 32 * j) * (1 + 32 * j), p.2))
theorem z_run : ∀ (f j w m : Nat), 42 + 32 * (j + f) ≤ 32768 → (List.replicate f (0 : Int)).foldl stepS (zS w m j) = zS (zrun f j (w, m)).1 (zrun f j (w, m)).2 (j + f)
  | 0, j, w, m, _ => rfl
  | f + 1, j, w, m, h => by
    rw [List.replicate_succ, List.foldl_cons, z_step w m j (by omega), z_run f (j + 1) _ _ (by omega), show j + 1 + f = j + (f + 1) by omega]
    rfl
theorem z_size (w m j : Nat) : sizeE (zS w m j).e = m + 1 := by simp [sizeE, zS, zE]
theorem z_few : (zrun 1000 0 (4294967295, 0)).2 ≤ 30 := by decide +kernel
def noughts : List Int := List.replicate 1000 0
theorem noughts_len : noughts.length = 1000 := List.length_replicate
theorem noughts_in : ∀ n ∈ noughts, inB n := by
  intro n hn
  rw [(List.mem_replicate.1 hn).2]
  decide
theorem noughts_size : (finishS (runS noughts).e).size < 40 := by
  rw [enc_size _ noughts_in]
  have e : runS noughts = zS (zrun 1000 0 (4294967295, 0)).1 (zrun 1000 0 (4294967295, 0)).2 (0 + 1000) := z_run 1000 0 4294967295 0 (by decide)
  rw [e, z_size]
  have := z_few
  omega
theorem enc_noughts : encF noughts = (finishS (runS noughts).e, 0) := by
  unfold encF
  rw [if_pos noughts_in]
theorem dec_noughts (behind : ByteArray) : decF (finishS (runS noughts).e ++ behind) 1000 = (noughts, ((finishS (runS noughts).e).size : Int), 0) := by
  have h := (dec_back noughts [] (by rw [List.append_nil]; exact noughts_in) (by rw [noughts_len]; decide) behind).1
  rw [List.append_nil, noughts_len] at h
  rw [enc_size _ noughts_in]
  exact h
end Go.Proofs.Ytoologbaoifheaa.Math
