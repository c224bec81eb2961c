/- Texts of this claim's proof, laid behind each other by a program of ours, without what the proof does not reach: The plain law of layer 8: what was written is read as it was; The plain law of layer 8: what was written is read as it was; the partitions one behind the other; The plain law of layer 8: what was written is read as it was; the whole; Plain words of layer 8: the bits of Rice codes, the best parameter, the best recipe; what the printed functions come to; Contracts of layer 8, proved by hand: try; Contracts of layer 8, proved by hand: try, where the shape may be; Contracts of layer 8, proved by hand: try, whatever comes; what the best recipe is; Contracts of layer 8, proved by hand: Best; Contracts of layer 8, proved by hand: what is the same is the same; short lists; Contracts of layer 1, proved by hand: the reference's writer; Plain words of layer 8: the reference's Check, part and Cost -/
import Derived.Laws.StructEq
import Derived.Laws.MakeOwn
import Derived.Test.YtfhekkoibmlmpaaEnc1
import Derived.Test.YtfhekkoibmlmpaaEnc2
import Derived.Test.YtfhekkoibmlmpaaEnc3
import Derived.Test.YtfhekkoibmlmpaaEnc4
import Derived.Test.YtfhekkoibmlmpaaEnc5
import Derived.Test.YtfhekkoibmlmpaaEnc6
import Derived.Test.YtfhekkoibmlmpaaEncWApart
import Derived.Test.YtfhekkoibmlmpaaEncWFoot
import Derived.Test.YtfhekkoibmlmpaaEncWGuard
import Derived.Test.YtfhekkoibmlmpaaEncWInv
import Derived.Test.YtfhekkoibmlmpaaEncWKept
import Derived.Test.YtfhekkoibmlmpaaEncWLast
import Derived.Test.YtfhekkoibmlmpaaEncWMore
import Derived.Test.YtfhekkoibmlmpaaEncWN
import Derived.Test.YtfhekkoibmlmpaaEncWRepsOne
import Derived.Test.YtfhekkoibmlmpaaEncWShare
import Derived.Test.YtfhekkoibmlmpaaEncWTab
import Derived.Test.YtfhekkoibmlmpaaEncWWords
/- The plain law of layer 8: what was written is read as it was. -/
namespace Go.Proofs.Ytfhekkoibmlmpaa.Hand
open Go.RowKit Go.Proofs.Ytfhekkoibmlmpaa.Q Go.Proofs.YtfhekkoibmlmpaaW.PrintWords Go.Proofs.YtfhekkoibmlmpaaW.PrintLast Go.Proofs.YtfhekkoibmlmpaaW.PrintMore
set_option linter.unusedVariables false
set_option linter.unusedSimpArgs false

theorem get_nat {s : ByteArray} {F A R : List Bool} (u K : Nat) (h : Holds s F) (e : F = A ++ nbits u K ++ R) (hK : K ≤ 64) (hu : u < 2 ^ K) : getR s A.length (K : Nat) = (u, 0, A.length + K) := by
  have hl := nbits_length u K
  have := get_of h e (by omega)
  rw [hl, natOf_nbits, Nat.mod_eq_of_lt hu] at this
  exact this
theorem one_back {s : ByteArray} {F A R : List Bool} (k e x : Int) (h : Holds s F) (hF : F = A ++ codeX k e x ++ R) (hm : mayOk k e x = true) (k0 : 0 ≤ k) (k1 : k ≤ 30) (e1 : e ≤ 31) :
    oneR s k e A.length = (x, 0, A.length + (codeX k e x).length) := by
  unfold mayOk at hm
  unfold oneR
  by_cases he : e < 0
  · have hc : codeX k e x = riceB x k.toNat := if_pos he
    rw [if_pos he] at hm
    have hd : codeD A.length ⟨3, k, x, 0⟩ = riceB x k.toNat := rfl
    rw [if_pos he, hc, ← hd]
    rw [hc, ← hd] at hF
    exact read_rice ⟨3, k, x, 0⟩ h hF rfl ⟨k0, k1, of_decide_eq_true hm⟩
  · rw [if_neg he] at hm ⊢
    by_cases he0 : 0 < e
    · have hc : codeX k e x = nbits (wordN x) e.toNat := (if_neg he).trans (if_pos he0)
      rw [if_pos he0] at hm
      have hd : codeD A.length ⟨1, e, x, 0⟩ = nbits (wordN x) e.toNat := rfl
      rw [if_pos he0, hc, ← hd]
      rw [hc, ← hd] at hF
      exact read_signed ⟨1, e, x, 0⟩ h hF rfl (of_decide_eq_true hm)
    · have hc : codeX k e x = [] := (if_neg he).trans (if_neg he0)
      rw [if_neg he0] at hm
      have hx : x = 0 := of_decide_eq_true hm
      rw [if_neg he0, hc, hx]
      rfl
theorem vals_back {s : ByteArray} {F : List Bool} (k e : Int) (h : Holds s F) (k0 : 0 ≤ k) (k1 : k ≤ 30) (e1 : e ≤ 31) : ∀ (xs : List Int) (A R : List Bool) (acc : List Int), F = A ++ bodyX k e xs ++ R → mayF xs k e = true →
    valsR s k e xs.length acc 0 A.length = (acc ++ xs, 0, A.length + (bodyX k e xs).length)
  | [], A, R, acc, hF, hm => by simp [valsR, bodyX]
  | x :: r, A, R, acc, hF, hm => by
    have h2 : mayOk k e x = true ∧ mayF r k e = true := by simpa [mayF] using hm
    have eb : bodyX k e (x :: r) = codeX k e x ++ bodyX k e r := by simp [bodyX]
    rw [eb] at hF ⊢
    have h1 := one_back (A := A) k e x h (R := bodyX k e r ++ R) (by rw [hF]; simp) h2.1 k0 k1 e1
    have ih := vals_back k e h k0 k1 e1 r (A ++ codeX k e x) R (acc ++ [x]) (by rw [hF]; simp) h2.2
    rw [List.length_cons]
    unfold valsR
    rw [if_pos rfl, h1]
    rw [List.length_append] at ih
    rw [ih]
    simp [Nat.add_assoc]
theorem head_back {s : ByteArray} {F A R : List Bool} (m : Nat) (k e : Int) (h : Holds s F) (hF : F = A ++ headX (4 + m) k e ++ R) (hm : m = 0 ∨ m = 1) (hok : okPE m k e) :
    headR s A.length (4 + m) = (k, e, 0, A.length + (headX (4 + m) k e).length) := by
  obtain ⟨k0, k1, e0, e1, hk⟩ := hok
  have hp : k.toNat < 2 ^ (4 + m) - 1 := by
    rcases hm with rfl | rfl
    · rw [if_neg (by decide)] at k1
      have : (2 : Nat) ^ (4 + 0) = 16 := by decide
      omega
    · rw [if_pos (by decide)] at k1
      have : (2 : Nat) ^ (4 + 1) = 32 := by decide
      omega
  have hW : 4 + m ≤ 64 := by omega
  generalize 4 + m = W at *
  unfold headR
  by_cases he : e < 0
  · have hc : headX W k e = nbits k.toNat W := if_pos he
    rw [hc] at hF ⊢
    rw [get_nat _ _ h hF hW (by omega), if_neg (by intro hh; have := hh.2; simp only at this; omega), nbits_length]
    refine Prod.ext ?_ (Prod.ext ?_ rfl)
    · show ((k.toNat : Nat) : Int) = k
      omega
    · show (-1 : Int) = e
      omega
  · have hc : headX W k e = nbits (2 ^ W - 1) W ++ nbits e.toNat 5 := if_neg he
    rw [hc] at hF ⊢
    have hp2 := Nat.two_pow_pos W
    have g1 := get_nat (A := A) (R := nbits e.toNat 5 ++ R) _ _ h (by rw [hF]; simp) hW (show 2 ^ W - 1 < 2 ^ W by omega)
    have g2 := get_nat (A := A ++ nbits (2 ^ W - 1) W) (R := R) e.toNat 5 h (by rw [hF]; simp) (by decide) (by omega)
    rw [List.length_append, nbits_length] at g2
    rw [g1, if_pos ⟨rfl, rfl⟩]
    simp only
    have g2' : getR s (A.length + W) 5 = (e.toNat, 0, A.length + W + 5) := g2
    rw [g2', List.length_append, nbits_length, nbits_length]
    refine Prod.ext ?_ (Prod.ext ?_ (Prod.ext rfl ?_))
    · show (0 : Int) = k
      exact (hk (by omega)).symm
    · show ((e.toNat : Nat) : Int) = e
      omega
    · show A.length + W + 5 = A.length + (W + 5)
      omega
theorem part_back {s : ByteArray} {F A R : List Bool} (m n order : Nat) (ps es l : List Int) (i : Nat) (h : Holds s F) (hF : F = A ++ partX (4 + m) n order ps es l i ++ R) (hm : m = 0 ∨ m = 1) (hok : okPE m (rd ps (i : Int)) (rd es (i : Int)))
    (hmay : mayF (partL l n order i) (rd ps (i : Int)) (rd es (i : Int)) = true) :
    partR s A.length (partL l n order i).length (4 + m) = (partL l n order i, rd ps (i : Int), rd es (i : Int), 0, A.length + (partX (4 + m) n order ps es l i).length) := by
  unfold partX at hF ⊢
  have k1 : rd ps (i : Int) ≤ 30 := by
    have := hok.2.1
    split at this <;> omega
  have h1 := head_back (A := A) (R := bodyX (rd ps (i : Int)) (rd es (i : Int)) (partL l n order i) ++ R) m _ _ h (by rw [hF]; simp) hm hok
  have h2 := vals_back (rd ps (i : Int)) (rd es (i : Int)) h hok.1 k1 hok.2.2.2.1 (partL l n order i) (A ++ headX (4 + m) (rd ps (i : Int)) (rd es (i : Int))) R [] (by rw [hF]; simp) hmay
  unfold partR
  rw [h1]
  simp only
  rw [List.length_append] at h2
  rw [h2]
  simp [Nat.add_assoc]
end Go.Proofs.Ytfhekkoibmlmpaa.Hand

/- The plain law of layer 8: what was written is read as it was; the partitions one behind the other. -/
namespace Go.Proofs.Ytfhekkoibmlmpaa.Hand
open Go.RowKit Go.Proofs.Ytfhekkoibmlmpaa.Q Go.Proofs.YtfhekkoibmlmpaaW.PrintWords Go.Proofs.YtfhekkoibmlmpaaW.PrintLast Go.Proofs.YtfhekkoibmlmpaaW.PrintMore
set_option linter.unusedVariables false
set_option linter.unusedSimpArgs false

theorem partL_is (l : List Int) (n order cnt i : Nat) (hl : l.length + order = cnt * n) (hon : order ≤ n) (hi : i < cnt) : (partL l n order i).length = (if i = 0 then n - order else n) := by
  have h1 : (i + 1) * n ≤ cnt * n := Nat.mul_le_mul_right n hi
  have e1 : (i + 1) * n = i * n + n := Nat.succ_mul i n
  unfold partL
  rw [List.length_drop, List.length_take, e1]
  by_cases h0 : i = 0
  · subst h0
    rw [if_pos rfl]
    simp
    omega
  · rw [if_neg h0]
    have h2 : 1 * n ≤ i * n := Nat.mul_le_mul_right n (by omega)
    omega
theorem take_part (l : List Int) (n order i : Nat) : l.take (i * n - order) ++ partL l n order i = l.take ((i + 1) * n - order) := by
  have e1 : (i + 1) * n = i * n + n := Nat.succ_mul i n
  unfold partL
  have e2 := List.take_append_drop (i * n - order) (l.take ((i + 1) * n - order))
  rw [List.take_take, Nat.min_eq_left (by omega)] at e2
  exact e2
theorem take_rd (xs : List Int) (i : Nat) (h : i < xs.length) : xs.take i ++ [rd xs (i : Int)] = xs.take (i + 1) := by
  rw [List.take_succ_eq_append_getElem h]
  simp [rd, h]
theorem decL_back {s : ByteArray} {F : List Bool} (m n order cnt : Nat) (ps es l : List Int) (h : Holds s F) (hm : m = 0 ∨ m = 1) (hl : l.length + order = cnt * n) (hon : order ≤ n) (hps : ps.length = cnt) (hes : es.length = cnt)
    (hok : ∀ i : Nat, i < cnt → okPE m (rd ps (i : Int)) (rd es (i : Int))) (hall : allMay n order ps es l cnt = true) :
    ∀ (d i : Nat) (A R : List Bool), i + d = cnt → F = A ++ (List.range' i d).flatMap (partX (4 + m) n order ps es l) ++ R →
      decL s n order (4 + m) d i (l.take (i * n - order)) (ps.take i) (es.take i) A.length = some (l, ps, es, A.length + ((List.range' i d).flatMap (partX (4 + m) n order ps es l)).length)
  | 0, i, A, R, hi, hF => by
    have : i = cnt := by omega
    subst this
    unfold decL
    rw [List.take_of_length_le (by omega), List.take_of_length_le (by omega), List.take_of_length_le (by omega)]
    simp
  | d + 1, i, A, R, hi, hF => by
    have hlt : i < cnt := by omega
    have er : (List.range' i (d + 1)).flatMap (partX (4 + m) n order ps es l) = partX (4 + m) n order ps es l i ++ (List.range' (i + 1) d).flatMap (partX (4 + m) n order ps es l) := by
      rw [List.range'_succ, List.flatMap_cons]
    rw [er] at hF ⊢
    have h1 := part_back (A := A) (R := (List.range' (i + 1) d).flatMap (partX (4 + m) n order ps es l) ++ R) m n order ps es l i h (by rw [hF]; simp) hm (hok i hlt) (allMay_at hall i hlt)
    have ih := decL_back m n order cnt ps es l h hm hl hon hps hes hok hall d (i + 1) (A ++ partX (4 + m) n order ps es l i) R (by omega) (by rw [hF]; simp)
    rw [partL_is l n order cnt i hl hon hlt] at h1
    unfold decL
    rw [h1]
    rw [if_pos rfl]
    simp only
    rw [take_part, take_rd ps i (by omega), take_rd es i (by omega)]
    rw [List.length_append] at ih
    rw [ih]
    simp [Nat.add_assoc]
end Go.Proofs.Ytfhekkoibmlmpaa.Hand

/- The plain law of layer 8: what was written is read as it was; the whole. -/
namespace Go.Proofs.Ytfhekkoibmlmpaa.Hand
open Go.RowKit Go.Proofs.Ytfhekkoibmlmpaa.Q Go.Proofs.YtfhekkoibmlmpaaW.PrintWords Go.Proofs.YtfhekkoibmlmpaaW.PrintLast Go.Proofs.YtfhekkoibmlmpaaW.PrintMore
set_option linter.unusedVariables false
set_option linter.unusedSimpArgs false

theorem dec_back {s : ByteArray} {F A R : List Bool} (m o block order : Int) (ps es l : List Int) (h : Holds s F) (hF : F = A ++ bitsE m o ps es block order l ++ R) (hc : canE m o ps es block order l) :
    decF s A.length block order = (m, o, l, ps, es, 0, A.length + (bitsE m o ps es block order l).length) := by
  obtain ⟨⟨hsh, hps, hes, hok⟩, hlen, hall⟩ := hc
  have hsh0 := hsh
  obtain ⟨O, Bk, Od, n, rfl, rfl, rfl, hO15, hB0, hB1, hOd, hdiv, hdn, hn, hm⟩ := shape_nat hsh
  rw [Int.toNat_natCast] at hps hes
  have hbits : bitsE m O ps es Bk Od l = nbits m.toNat 2 ++ (nbits O 4 ++ partsX (4 + m.toNat) n Od ps es l (2 ^ O)) := by
    unfold bitsE
    rw [hn, hps, Int.toNat_natCast, Int.toNat_natCast]
  rw [hbits] at hF ⊢
  obtain ⟨M, rfl⟩ := Int.eq_ofNat_of_zero_le (show 0 ≤ m by omega)
  rw [Int.toNat_natCast] at hF ⊢
  rw [hn, Int.toNat_natCast, hps] at hall
  have g1 := get_nat (A := A) (R := (nbits O 4 ++ partsX (4 + M) n Od ps es l (2 ^ O)) ++ R) M 2 h (by rw [hF]; simp) (by decide) (by omega)
  have g2 := get_nat (A := A ++ nbits M 2) (R := partsX (4 + M) n Od ps es l (2 ^ O) ++ R) O 4 h (by rw [hF]; simp) (by decide) (by omega)
  have g3 := decL_back M n Od (2 ^ O) ps es l h (by omega) (by omega) hdn hps hes (fun i hi => hok i (by omega)) hall (2 ^ O) 0 ((A ++ nbits M 2) ++ nbits O 4) R (by omega) (by rw [hF, ← List.range_eq_range']; unfold partsX; simp)
  rw [List.length_append, nbits_length] at g2
  rw [List.length_append, List.length_append, nbits_length, nbits_length, ← List.range_eq_range'] at g3
  have g1' : getR s A.length 2 = (M, 0, A.length + 2) := g1
  have g2' : getR s (A.length + 2) 4 = (O, 0, A.length + 2 + 4) := g2
  unfold decF
  rw [if_neg (by unfold badArgs; omega), if_pos (by unfold headD; rw [g1']; simp only; rw [g2']; exact ⟨trivial, rfl, hsh0⟩)]
  have hX : decX s A.length Bk Od = some (l, ps, es, A.length + 2 + 4 + (partsX (4 + M) n Od ps es l (2 ^ O)).length) := by
    unfold decX
    rw [g1']
    simp only
    rw [g2']
    simp only
    rw [Int.toNat_natCast] at hn
    rw [hn, Int.toNat_natCast]
    rw [Nat.zero_mul, Nat.zero_sub, List.take_zero, List.take_zero, List.take_zero] at g3
    exact g3
  rw [hX, g1']
  simp only
  rw [g2']
  simp only [nbits_length, List.length_append, Prod.mk.injEq, true_and]
  omega
end Go.Proofs.Ytfhekkoibmlmpaa.Hand

/- Plain words of layer 8: the bits of Rice codes, the best parameter, the best recipe; what the printed functions come to. -/
namespace Go.Proofs.Ytfhekkoibmlmpaa.Hand
open Go.RowKit Go.Proofs.Ytfhekkoibmlmpaa.Q Go.Proofs.YtfhekkoibmlmpaaW.PrintWords Go.Proofs.YtfhekkoibmlmpaaW.PrintLast Go.Proofs.YtfhekkoibmlmpaaW.PrintMore
set_option linter.unusedVariables false
set_option linter.unusedSimpArgs false

def cstR (K : Nat) : List Int → Int → Int
  | [], acc => acc
  | x :: r, acc => if 16777216 < foldN x / 2 ^ K then -1 else cstR K r (acc + ((foldN x / 2 ^ K : Nat) : Int))
/-- How many bits the Rice codes of a list have; -1: there are none. -/
def costF (l : List Int) (k : Int) : Int := if k < 0 ∨ 30 < k then -1 else cstR k.toNat l ((l.length : Int) * (1 + k))
theorem cstR_range (K : Nat) : ∀ (l : List Int) (acc : Int), 0 ≤ acc → cstR K l acc = -1 ∨ (acc ≤ cstR K l acc ∧ cstR K l acc ≤ acc + 16777216 * l.length)
  | [], acc, h => .inr ⟨Int.le_refl _, by simp [cstR]⟩
  | x :: r, acc, h => by
    unfold cstR
    generalize foldN x / 2 ^ K = u
    by_cases hx : 16777216 < u
    · rw [if_pos hx]
      exact .inl rfl
    · rw [if_neg hx]
      rcases cstR_range K r (acc + (u : Int)) (by omega) with h1 | ⟨h1, h2⟩
      · exact .inl h1
      · right
        rw [List.length_cons]
        omega
theorem shr_u (f K : Nat) (hK : K ≤ 64) : shr .u64 (f : Int) (K : Int) = ((f / 2 ^ K : Nat) : Int) := by
  have e : shr .u64 (f : Int) (K : Int) = (f : Int) / 2 ^ min ((K : Int)).toNat 64 := rfl
  rw [e, Int.toNat_natCast, Nat.min_eq_left hK]
  simp
theorem cost_l0 (l : List Int) (K : Nat) (hK : K ≤ 30) (hl : l.length ≤ 65535) (hin : ∀ x ∈ l, -9223372036854775808 ≤ x ∧ x ≤ 9223372036854775807) : ∀ (d i : Nat) (acc : Int), i + d = l.length → 0 ≤ acc → acc ≤ 4000000 + 16777216 * i →
    Ev (fun k => rice_Cost.l0 k (K : Nat) acc l (l.length : Nat) (i : Nat)) (cstR K (l.drop i) acc)
  | 0, i, acc, hi, h0, h1 => by
    rw [List.drop_eq_nil_of_le (by omega)]
    refine Ev.step (f := fun _ => some acc) (fun k => ?_) (Ev.now _)
    simp only [rice_Cost.l0]
    rw [if_neg (by omega)]
  | d + 1, i, acc, hi, h0, h1 => by
    have hlt : i < l.length := by omega
    have hrd : rd l (i : Nat) = l[i] := by simp [rd, hlt]
    obtain ⟨x0, x1⟩ := hin _ (rd_mem l i hlt)
    have hf : shr .u64 (Go.bits .xor .u64 (IntKind.u64.wrap ((IntKind.u64.wrap (rd l (i : Nat))) * 2)) (IntKind.u64.wrap ((rd l (i : Nat)) / 9223372036854775808))) (K : Int) = ((foldN (rd l (i : Nat)) / 2 ^ K : Nat) : Int) := by
      rw [fold_bits _ x0 x1, shr_u _ _ (by omega)]
    rw [List.drop_eq_getElem_cons hlt, ← hrd]
    have ih := cost_l0 l K hK hl hin d (i + 1)
    unfold cstR
    generalize hx : rd l (i : Nat) = x at hf
    generalize foldN x / 2 ^ K = u at hf
    have key : ∀ k, rice_Cost.l0 (k + 1) (K : Nat) acc l (l.length : Nat) (i : Nat) = if (u : Int) > 16777216 then some (-1) else rice_Cost.l0 k (K : Nat) (wrap64 (acc + wrap64 (u : Int))) l (l.length : Nat) (wrap64 ((i : Int) + 1)) := fun k => by
      conv => lhs; simp only [rice_Cost.l0]
      rw [if_pos (by omega), if_pos (by omega), if_pos (by omega), if_pos (by omega), hx, hf]
    by_cases hu : 16777216 < u
    · rw [if_pos hu]
      exact Ev.step (f := fun _ => some (-1)) (fun k => by rw [key k, if_pos (by omega)]) (Ev.now _)
    · rw [if_neg hu]
      refine Ev.step (fun k => ?_) (ih (acc + (u : Int)) (by omega) (by omega) (by omega))
      rw [key k, if_neg (by omega), w64h (u : Int) (by omega) (by omega), w64h _ (by omega) (by omega), w64h _ (by omega) (by omega)]
      rfl
theorem cost_ev (l : List Int) (k : Int) (hl : l.length ≤ 65535) (hin : ∀ x ∈ l, -9223372036854775808 ≤ x ∧ x ≤ 9223372036854775807) : Ev (fun n => rice_Cost.f n l k) (costF l k) := by
  have hno : Ev (fun n => rice_Cost.j0 n l k true) (-1) := Ev.step (f := fun _ => some (-1)) (fun n => by simp only [rice_Cost.j0]; rw [if_pos trivial]) (Ev.now _)
  unfold costF
  by_cases h0 : k < 0
  · rw [if_pos (.inl h0)]
    exact Ev.congr (fun n => by unfold rice_Cost.f; rw [if_pos h0]) hno
  by_cases h1 : 30 < k
  · rw [if_pos (.inr h1)]
    exact Ev.congr (fun n => by unfold rice_Cost.f; rw [if_neg h0, decide_eq_true (by omega)]) hno
  rw [if_neg (by omega)]
  obtain ⟨K, rfl⟩ := Int.eq_ofNat_of_zero_le (show 0 ≤ k by omega)
  have hb : (l.length : Int) * (1 + (K : Int)) ≤ 65535 * 31 := Int.mul_le_mul (by omega) (by omega) (by omega) (by omega)
  have hb0 : 0 ≤ (l.length : Int) * (1 + (K : Int)) := Int.mul_nonneg (by omega) (by omega)
  rw [Int.toNat_natCast]
  have := cost_l0 l K (by omega) hl hin l.length 0 ((l.length : Int) * (1 + (K : Int))) (by omega) hb0 (by omega)
  rw [List.drop_zero] at this
  refine Ev.congr (f := fun n => rice_Cost.j0 n l (K : Int) false) (fun n => by unfold rice_Cost.f; rw [if_neg h0, decide_eq_false (by omega)]) (Ev.step (fun n => ?_) this)
  simp only [rice_Cost.j0]
  rw [if_neg (by decide), w64h (1 + (K : Int)) (by omega) (by omega), w64h _ (by omega) (by omega)]
  rfl
/-- The best parameter from one on. -/
def lstR (l : List Int) : Nat → Nat → Int × Int → Int × Int
  | 0, _, b => b
  | d + 1, k, b => lstR l d (k + 1) (if 0 ≤ costF l (k : Int) ∧ (b.2 < 0 ∨ costF l (k : Int) < b.2) then ((k : Int), costF l (k : Int)) else b)
def leastF (l : List Int) : Int × Int := lstR l 15 0 (0, -1)
theorem least_l0 (l : List Int) (hl : l.length ≤ 65535) (hin : ∀ x ∈ l, -9223372036854775808 ≤ x ∧ x ≤ 9223372036854775807) : ∀ (d k : Nat) (b : Int × Int), k + d = 15 → Ev (fun n => rice_least.l0 n l b.1 b.2 (k : Nat)) (lstR l d k b)
  | 0, k, b, hk => by
    refine Ev.step (f := fun _ => some b) (fun n => ?_) (Ev.now _)
    simp only [rice_least.l0]
    rw [if_neg (by omega)]
  | d + 1, k, b, hk => by
    unfold lstR
    have hc := cost_ev l (k : Int) hl hin
    generalize costF l (k : Int) = c at hc
    have ih := fun b => least_l0 l hl hin d (k + 1) b (by omega)
    refine Ev.step (f := fun n => (rice_Cost.f n l (k : Nat)).bind fun t => if t ≥ 0 then (if b.2 < 0 then rice_least.l0 n l (k : Nat) t ((k + 1 : Nat) : Int) else if t < b.2 then rice_least.l0 n l (k : Nat) t ((k + 1 : Nat) : Int) else rice_least.l0 n l b.1 b.2 ((k + 1 : Nat) : Int)) else rice_least.l0 n l b.1 b.2 ((k + 1 : Nat) : Int)) (fun n => ?_) (Ev.bind hc ?_)
    · simp only [rice_least.l0]
      rw [if_pos (by omega), w64h _ (by omega) (by omega)]
      rfl
    · by_cases h0 : c ≥ 0
      · by_cases h1 : b.2 < 0
        · rw [if_pos ⟨h0, .inl h1⟩]
          exact Ev.congr (fun n => by rw [if_pos h0, if_pos h1]) (ih ((k : Int), c))
        · by_cases h2 : c < b.2
          · rw [if_pos ⟨h0, .inr h2⟩]
            exact Ev.congr (fun n => by rw [if_pos h0, if_neg h1, if_pos h2]) (ih ((k : Int), c))
          · rw [if_neg (by omega)]
            exact Ev.congr (fun n => by rw [if_pos h0, if_neg h1, if_neg h2]) (ih b)
      · rw [if_neg (by omega)]
        exact Ev.congr (fun n => by rw [if_neg h0]) (ih b)
theorem least_ev (l : List Int) (hl : l.length ≤ 65535) (hin : ∀ x ∈ l, -9223372036854775808 ≤ x ∧ x ≤ 9223372036854775807) : Ev (fun n => rice_least.f n l) (leastF l) := least_l0 l hl hin 15 0 (0, -1) (by omega)
theorem cost_range (l : List Int) (k : Int) (hl : l.length ≤ 65535) : -1 ≤ costF l k ∧ costF l k ≤ 1100000000000 := by
  unfold costF
  split
  · omega
  · obtain ⟨K, rfl⟩ := Int.eq_ofNat_of_zero_le (show 0 ≤ k by omega)
    have hb : (l.length : Int) * (1 + (K : Int)) ≤ 65535 * 31 := Int.mul_le_mul (by omega) (by omega) (by omega) (by omega)
    have hb0 : 0 ≤ (l.length : Int) * (1 + (K : Int)) := Int.mul_nonneg (by omega) (by omega)
    rcases cstR_range (K : Int).toNat l _ hb0 with h | ⟨h1, h2⟩ <;> omega
theorem lst_range (l : List Int) (hl : l.length ≤ 65535) : ∀ d k b, k + d = 15 → (0 ≤ b.1 ∧ b.1 ≤ 14 ∧ -1 ≤ b.2 ∧ b.2 ≤ 1100000000000) → (0 ≤ (lstR l d k b).1 ∧ (lstR l d k b).1 ≤ 14 ∧ -1 ≤ (lstR l d k b).2 ∧ (lstR l d k b).2 ≤ 1100000000000)
  | 0, k, b, hk, h => h
  | d + 1, k, b, hk, h => by
    unfold lstR
    have hc := cost_range l (k : Int) hl
    refine lst_range l hl d (k + 1) _ (by omega) ?_
    split
    · exact ⟨by omega, by omega, hc⟩
    · exact h
theorem least_range (l : List Int) (hl : l.length ≤ 65535) : 0 ≤ (leastF l).1 ∧ (leastF l).1 ≤ 14 ∧ -1 ≤ (leastF l).2 ∧ (leastF l).2 ≤ 1100000000000 := lst_range l hl 15 0 (0, -1) (by omega) (by decide)
end Go.Proofs.Ytfhekkoibmlmpaa.Hand

/- Contracts of layer 8, proved by hand: try. -/
namespace Go.Proofs.Ytfhekkoibmlmpaa.Hand
open Go.RowKit Go.Proofs.Ytfhekkoibmlmpaa.Q Go.Proofs.YtfhekkoibmlmpaaW.PrintWords Go.Proofs.YtfhekkoibmlmpaaW.PrintLast Go.Proofs.YtfhekkoibmlmpaaW.PrintMore
set_option linter.unusedVariables false
set_option linter.unusedSimpArgs false

/-- Partitions from one on, each with its best parameter. -/
def tryL (l : List Int) (n order : Nat) : Nat → Nat → Int → List Int → List Int → Option (Int × List Int × List Int)
  | 0, _, sum, ps, es => some (sum, ps, es)
  | d + 1, i, sum, ps, es => if (leastF (partL l n order i)).2 < 0 then none else tryL l n order d (i + 1) (sum + (4 + (leastF (partL l n order i)).2)) (ps ++ [(leastF (partL l n order i)).1]) (es ++ [-1])
structure TrySt (w : World) (b8 b10 : Nat) (o : Int) (wr : World) (vP vE : Value) (ps es : List Int) : Prop where
  bel : Below w.heap.size w wr
  z8 : wr.heap[b8]? = some (.cells zRice 24 (0, 0))
  r10 : wr.heap[b10]? = some (.cells #[.int .i64 0, .int .i64 o, vP, vE] 24 (0, 0))
  P : IntsAt wr w.heap.size vP ps
  E : IntsAt wr w.heap.size vE es
  d3 : Dis vP vE
theorem TrySt.below {w : World} {b8 b10 : Nat} {o : Int} {wr w' : World} {vP vE : Value} {ps es : List Int} (h : TrySt w b8 b10 o wr vP vE ps es) (hb : Below wr.heap.size wr w') : TrySt w b8 b10 o w' vP vE ps es :=
  ⟨h.bel.trans (hb.mono h.bel.size), blk_below h.z8 hb, blk_below h.r10 hb, h.P.below hb, h.E.below hb, h.d3⟩
theorem TrySt.two {w : World} {b8 b10 : Nat} {o o' : Int} {W0 W : World} {vP vE vP' vE' : Value} {ps es ps' es' : List Int} (h : TrySt w b8 b10 o W0 vP vE ps es) (h8 : b8 ≠ b10)
    (ht : TwoRows w.heap.size b10 24 W0 vP vE W #[.int .i64 0, .int .i64 o', vP', vE'] vP' vE' ps' es') : TrySt w b8 b10 o' W vP' vE' ps' es' := by
  refine ⟨h.bel.trans ht.below, blk_kept h.z8 ht.kept (fun hn => ?_), ht.box, ht.P, ht.E, ht.dis⟩
  rcases hn with e | e | e
  · exact h8 e
  · exact (Kd.R_ne h.P.all h.z8 (by decide)) e.symm
  · exact (Kd.R_ne h.E.all h.z8 (by decide)) e.symm
/-- How try ends. -/
def TryPost (o : Int) (X : Option (Int × List Int × List Int)) (C : Nat) (w : World) (e : Ending) (w' : World) : Prop :=
  (X = none ∧ e = .returned (.tuple #[.agg zRice, .int .i64 (-1)]) ∧ Below C w w') ∨
  ∃ sum ps es vP vE, X = some (sum, ps, es) ∧ e = .returned (.tuple #[.agg #[.int .i64 0, .int .i64 o, vP, vE], .int .i64 sum]) ∧ IntsAt w' C vP ps ∧ IntsAt w' C vE es ∧ Below C w w'
set_option maxHeartbeats 16000000 in
set_option maxRecDepth 100000 in
theorem try_no (o block order : Int) (l : List Int) (A : Option Addr) (c : Nat) (w : World) (h : ¬ shapeP 0 o block order ∨ (shapeP 0 o block order ∧ (l.length : Int) ≠ block - order)) :
    Calls Try.prog 46 #[.int .i64 o, .int .i64 block, .int .i64 order, .slice A l.length c] w fun e w' => e = .returned (.tuple #[.agg zRice, .int .i64 (-1)]) ∧ Below w.heap.size w w' := by
  have HCS : Aside0 (∀ W, Calls Try.prog 39 #[.agg #[.int .i64 0, .int .i64 o, .slice none 0 0, .slice none 0 0], .int .i64 block, .int .i64 order] W fun e w' => e = .returned (.bool (decide (shapeP 0 o block order))) ∧ Below W.heap.size W w') := ⟨fun W =>
    rice_shape.calls 0 o none 0 [] none 0 [] block order _ W ⟨rfl, by decide, fun h => absurd h (Nat.lt_irrefl _)⟩ (Nat.le_refl _) ⟨rfl, by decide, fun h => absurd h (Nat.lt_irrefl _)⟩ (Nat.le_refl _) (shape_eq 0 o [] [] block order (by omega) (by omega))⟩
  have hb1 : Below w.heap.size w ((w.alloc (.cells zRice 24 (0, 0))).alloc (.cells zRice 24 (0, 0))) := below_alloc (below_alloc (Below.refl _ _) _) _
  have hz : ((w.alloc (.cells zRice 24 (0, 0))).alloc (.cells zRice 24 (0, 0))).heap[w.heap.size]? = some (.cells zRice 24 (0, 0)) := blk_alloc (blk_new w _) _
  have hx : ((w.alloc (.cells zRice 24 (0, 0))).alloc (.cells zRice 24 (0, 0))).heap[w.heap.size + 1]? = some (.cells zRice 24 (0, 0)) := by simpa using blk_new (w.alloc (.cells zRice 24 (0, 0))) (.cells zRice 24 (0, 0))
  have HB1 := Aside0.mk (below_setRow hb1 (Nat.le_succ _) #[.int .i64 0, .int .i64 o, .slice none 0 0, .slice none 0 0])
  have HX1 := Aside0.mk (setRow_heap _ _ _ #[.int .i64 0, .int .i64 o, .slice none 0 0, .slice none 0 0] _ _ hx)
  have HZ1 : Aside0 (((((w.alloc (.cells zRice 24 (0, 0))).alloc (.cells zRice 24 (0, 0))).setRow (w.heap.size + 1) #[.int .i64 0, .int .i64 o, .slice none 0 0, .slice none 0 0]).heap[w.heap.size]?) = some (.cells zRice 24 (0, 0))) := ⟨by rw [setRow_other _ _ _ _ (by omega)]; exact hz⟩
  have HX := Aside0.mk hx
  clear hb1 hz hx
  have h2 : decide (shapeP 0 o block order) = false ∨ (decide (shapeP 0 o block order) = true ∧ (l.length : Int) ≠ block - order ∧ 1 ≤ block ∧ block ≤ 65535 ∧ 0 ≤ order ∧ order ≤ 32) := by
    rcases h with h | ⟨h, h9⟩
    · exact .inl (decide_eq_false h)
    · exact .inr ⟨decide_eq_true h, h9, h.2.2.2.1, h.2.2.2.2.1, h.2.2.2.2.2.1, h.2.2.2.2.2.2.1⟩
  clear h
  generalize decide (shapeP 0 o block order) = sb at HCS h2
  rcases h2 with rfl | ⟨rfl, h9, b0, b1, d0, d1⟩
  · go_enter Try.func46, Try.ntmps46
    go_upto_region 2 with ((with_reducible refine wpList_store_row ?_ 24 (.tmp 10) (.tmp 16) ?_ (w.heap.size + 1) #[.int .i64 0, .int .i64 o, .slice none 0 0, .slice none 0 0] ?_ ?_ 24 zRice HX.out (rc_info _ _ _ _) ?_ (rc_one _ _ _ _ _ _ _ _) ?_); rfl; rfl; rfl; rfl; rfl)
    generalize ((w.alloc (.cells zRice 24 (0, 0))).alloc (.cells zRice 24 (0, 0))).setRow (w.heap.size + 1) #[.int .i64 0, .int .i64 o, .slice none 0 0, .slice none 0 0] = w1 at *
    have c0 := blk_cell HX1.out 0
    have c1 := blk_cell HX1.out 1
    have c2 := blk_cell HX1.out 2
    have c3 := blk_cell HX1.out 3
    go_wp2_with fail
    with_reducible refine (HCS.out _).mono ?_
    rintro e w2 ⟨rfl, hb2⟩
    have HZ2 := Aside0.mk (blk_below HZ1.out hb2)
    have HB2 := Aside0.mk (HB1.out.trans (hb2.mono HB1.out.size))
    clear hb2 c0 c1 c2 c3 HX1 HZ1 HB1 HCS HX
    go_wp2_with ((with_reducible refine wpList_store_row ?_ 24 (.tmp 8) (.tmp 30) ?_ w.heap.size zRice ?_ ?_ 24 zRice HZ2.out (rc_info _ _ _ _) ?_ (rc_one _ _ _ _ _ _ _ _) ?_); rfl; rfl; rfl; rfl; rfl)
    refine bodyPost_ret (results_ct rfl _ _ w.heap.size 24 zRice (0, 0) _ rfl (setRow_heap _ _ _ _ _ _ HZ2.out) Try.underlying24 rfl (rc_info _ _ _ _)) rfl ?_
    exact ⟨rfl, below_setRow HB2.out (Nat.le_refl _) _⟩
  · have hne : ((l.length : Int) != block - order) = true := bne_iff_ne.mpr h9
    clear h9
    go_enter Try.func46, Try.ntmps46
    go_upto_region 2 with ((with_reducible refine wpList_store_row ?_ 24 (.tmp 10) (.tmp 16) ?_ (w.heap.size + 1) #[.int .i64 0, .int .i64 o, .slice none 0 0, .slice none 0 0] ?_ ?_ 24 zRice HX.out (rc_info _ _ _ _) ?_ (rc_one _ _ _ _ _ _ _ _) ?_); rfl; rfl; rfl; rfl; rfl)
    generalize ((w.alloc (.cells zRice 24 (0, 0))).alloc (.cells zRice 24 (0, 0))).setRow (w.heap.size + 1) #[.int .i64 0, .int .i64 o, .slice none 0 0, .slice none 0 0] = w1 at *
    have c0 := blk_cell HX1.out 0
    have c1 := blk_cell HX1.out 1
    have c2 := blk_cell HX1.out 2
    have c3 := blk_cell HX1.out 3
    go_wp2_with fail
    with_reducible refine (HCS.out _).mono ?_
    rintro e w2 ⟨rfl, hb2⟩
    have HZ2 := Aside0.mk (blk_below HZ1.out hb2)
    have HB2 := Aside0.mk (HB1.out.trans (hb2.mono HB1.out.size))
    clear hb2 c0 c1 c2 c3 HX1 HZ1 HB1 HCS HX
    go_wp2_with ((with_reducible refine wpList_store_row ?_ 24 (.tmp 8) (.tmp 30) ?_ w.heap.size zRice ?_ ?_ 24 zRice HZ2.out (rc_info _ _ _ _) ?_ (rc_one _ _ _ _ _ _ _ _) ?_); rfl; rfl; rfl; rfl; rfl)
    refine bodyPost_ret (results_ct rfl _ _ w.heap.size 24 zRice (0, 0) _ rfl (setRow_heap _ _ _ _ _ _ HZ2.out) Try.underlying24 rfl (rc_info _ _ _ _)) rfl ?_
    exact ⟨rfl, below_setRow HB2.out (Nat.le_refl _) _⟩
end Go.Proofs.Ytfhekkoibmlmpaa.Hand

/- Contracts of layer 8, proved by hand: try, where the shape may be. -/
namespace Go.Proofs.Ytfhekkoibmlmpaa.Hand
open Go.RowKit Go.Proofs.Ytfhekkoibmlmpaa.Q Go.Proofs.YtfhekkoibmlmpaaW.PrintWords Go.Proofs.YtfhekkoibmlmpaaW.PrintLast Go.Proofs.YtfhekkoibmlmpaaW.PrintMore
set_option linter.unusedVariables false
set_option linter.unusedSimpArgs false

set_option maxHeartbeats 16000000 in
set_option maxRecDepth 100000 in
theorem try_go (O Bk Od n : Nat) (l : List Int) (A : Option Addr) (c : Nat) (w : World) (hsh : shapeP 0 O Bk Od) (hO : O ≤ 15) (hB : Bk ≤ 65535) (hd : Od ≤ 32) (hdiv : Bk = 2 ^ O * n) (hon : Od ≤ n) (hl : l.length + Od = Bk) (hc : l.length ≤ c) (hA : Kd.C (Kd.int .i64) w A l.length l)
    (hin : ∀ x ∈ l, -9223372036854775808 ≤ x ∧ x ≤ 9223372036854775807) :
    Calls Try.prog 46 #[.int .i64 O, .int .i64 Bk, .int .i64 Od, .slice A l.length c] w (TryPost O (tryL l n Od (2 ^ O) 0 6 [] []) w.heap.size w) := by
  have HCS : Aside0 (∀ W, Calls Try.prog 39 #[.agg #[.int .i64 0, .int .i64 O, .slice none 0 0, .slice none 0 0], .int .i64 Bk, .int .i64 Od] W fun e w' => e = .returned (.bool true) ∧ Below W.heap.size W w') := ⟨fun W =>
    rice_shape.calls 0 O none 0 [] none 0 [] Bk Od _ W ⟨rfl, by decide, fun h => absurd h (Nat.lt_irrefl _)⟩ (Nat.le_refl _) ⟨rfl, by decide, fun h => absurd h (Nat.lt_irrefl _)⟩ (Nat.le_refl _) (by rw [shape_eq 0 O [] [] Bk Od (by omega) (by omega), decide_eq_true hsh])⟩
  have hb0 : 1 ≤ Bk := by have := hsh.2.2.2.1; omega
  have hNp : 0 < 2 ^ O := Nat.two_pow_pos O
  have hN2 : 2 ^ O ≤ 32768 := by
    have := Nat.pow_le_pow_right (n := 2) (by decide) hO
    have e : (2 : Nat) ^ 15 = 32768 := by decide
    omega
  have HCUT : Aside0 (∀ (i : Nat) (W : World) (AP AE : Option Addr) (nP cP nE cE : Nat), Below w.heap.size w W → i < 2 ^ O → Calls Try.prog 32 #[.slice A l.length c, .agg #[.int .i64 0, .int .i64 O, .slice AP nP cP, .slice AE nE cE], .int .i64 Bk, .int .i64 Od, .int .i64 i] W fun e w' => ∃ A', e = .returned (.slice A' (partL l n Od i).length (partL l n Od i).length) ∧ Kd.C (Kd.int .i64) w' A' (partL l n Od i).length (partL l n Od i) ∧ (∀ ad', A' = some ad' → ∃ ad, A = some ad ∧ ad'.block = ad.block) ∧ Below W.heap.size W w') := ⟨fun i W AP AE nP cP nE cE hW hi =>
    cut_part l A c 0 O AP AE nP cP nE cE Bk Od i n hO hB hd hdiv hon hi hl hc W (Kd.C_below hA hW)⟩
  have hn6 : n ≤ 65535 := by
    have h3 : 1 * n ≤ 2 ^ O * n := Nat.mul_le_mul_right n hNp
    omega
  have HLEAST : Aside0 (∀ (i : Nat) (W : World) (A' : Option Addr), Kd.C (Kd.int .i64) W A' (partL l n Od i).length (partL l n Od i) → Calls Try.prog 63 #[.slice A' (partL l n Od i).length (partL l n Od i).length] W fun e w' => e = .returned (.tuple #[.int .i64 (leastF (partL l n Od i)).1, .int .i64 (leastF (partL l n Od i)).2]) ∧ Drawn0 W w') := ⟨fun i W A' hC => by
    have hlen := partL_length l n Od i
    obtain ⟨kk, hk⟩ := (least_ev (partL l n Od i) (by omega) (fun x hx => hin x (List.mem_of_mem_take (List.mem_of_mem_drop hx)))).rounds
    exact rice_least.calls kk A' (partL l n Od i).length (partL l n Od i) _ _ W hC (Nat.le_refl _) hk⟩
  have HLR : Aside0 (∀ i, 0 ≤ (leastF (partL l n Od i)).1 ∧ (leastF (partL l n Od i)).1 ≤ 14 ∧ -1 ≤ (leastF (partL l n Od i)).2 ∧ (leastF (partL l n Od i)).2 ≤ 1100000000000) := ⟨fun i => least_range _ (by have := partL_length l n Od i; omega)⟩
  have hne : ((l.length : Int) != (Bk : Int) - (Od : Int)) = false := bne_eq_false_iff_eq.mpr (by omega)
  have hsl : (1 : Int) * 2 ^ min ((O : Int)).toNat 64 = ((2 ^ O : Nat) : Int) := by
    rw [Int.toNat_natCast, Nat.min_eq_left (by omega), Int.one_mul]
    simp
  obtain ⟨X, hX⟩ : ∃ X, tryL l n Od (2 ^ O) 0 6 [] [] = X := ⟨_, rfl⟩
  rw [hX]
  have HX := Aside0.mk hX
  obtain ⟨N, hN⟩ : ∃ N, 2 ^ O = N := ⟨_, rfl⟩
  rw [hN] at HX hN2 hNp hsl HCUT
  clear hX hsh hdiv hN hA hin hon
  obtain ⟨oI, ho⟩ : ∃ oI : Int, (O : Int) = oI := ⟨_, rfl⟩
  have o0 : 0 ≤ oI := by omega
  have o1 : oI ≤ 64 := by omega
  rw [ho] at hsl HCS HCUT ⊢
  clear ho
  have hj9 : IntKind.i64.wrap (1 * 2 ^ min oI.toNat 64) = (N : Int) := by rw [hsl, IntKind.wrap_i64]; omega
  have hmin : min oI.toNat 64 = oI.toNat := Nat.min_eq_left (by omega)
  have hj0 : IntKind.i64.wrap (1 * 2 ^ oI.toNat) = (N : Int) := by rw [hmin] at hj9; exact hj9
  have hj1 : IntKind.i64.wrap (2 ^ min oI.toNat 64) = (N : Int) := by rw [Int.one_mul] at hj9; exact hj9
  have hj2 : IntKind.i64.wrap (2 ^ oI.toNat) = (N : Int) := by rw [Int.one_mul] at hj0; exact hj0
  have hj3 : wrap64 (1 * 2 ^ min oI.toNat 64) = (N : Int) := by rw [hsl]; unfold wrap64; omega
  have hj4 : wrap64 (2 ^ min oI.toNat 64) = (N : Int) := by rw [Int.one_mul] at hj3; exact hj3
  have HJ := Aside0.mk (And.intro hj9 (And.intro hj0 (And.intro hj1 (And.intro hj2 (And.intro hj3 hj4)))))
  clear hsl hmin hj9 hj0 hj1 hj2 hj3 hj4
  have hb1 : Below w.heap.size w ((w.alloc (.cells zRice 24 (0, 0))).alloc (.cells zRice 24 (0, 0))) := below_alloc (below_alloc (Below.refl _ _) _) _
  have hz : ((w.alloc (.cells zRice 24 (0, 0))).alloc (.cells zRice 24 (0, 0))).heap[w.heap.size]? = some (.cells zRice 24 (0, 0)) := blk_alloc (blk_new w _) _
  have hx : ((w.alloc (.cells zRice 24 (0, 0))).alloc (.cells zRice 24 (0, 0))).heap[w.heap.size + 1]? = some (.cells zRice 24 (0, 0)) := by simpa using blk_new (w.alloc (.cells zRice 24 (0, 0))) (.cells zRice 24 (0, 0))
  have HB1 := Aside0.mk (below_setRow hb1 (Nat.le_succ _) #[.int .i64 0, .int .i64 oI, .slice none 0 0, .slice none 0 0])
  have HX1 := Aside0.mk (setRow_heap _ _ _ #[.int .i64 0, .int .i64 oI, .slice none 0 0, .slice none 0 0] _ _ hx)
  have HZ1 : Aside0 (((((w.alloc (.cells zRice 24 (0, 0))).alloc (.cells zRice 24 (0, 0))).setRow (w.heap.size + 1) #[.int .i64 0, .int .i64 oI, .slice none 0 0, .slice none 0 0]).heap[w.heap.size]?) = some (.cells zRice 24 (0, 0))) := ⟨by rw [setRow_other _ _ _ _ (by omega)]; exact hz⟩
  have HXX := Aside0.mk hx
  have h810 : w.heap.size ≠ w.heap.size + 1 := by omega
  have hC10 : w.heap.size ≤ w.heap.size + 1 := by omega
  clear hb1 hz hx
  go_enter Try.func46, Try.ntmps46
  go_upto_region 2 with ((with_reducible refine wpList_store_row ?_ 24 (.tmp 10) (.tmp 16) ?_ (w.heap.size + 1) #[.int .i64 0, .int .i64 oI, .slice none 0 0, .slice none 0 0] ?_ ?_ 24 zRice HXX.out (rc_info _ _ _ _) ?_ (rc_one _ _ _ _ _ _ _ _) ?_); rfl; rfl; rfl; rfl; rfl)
  generalize ((w.alloc (.cells zRice 24 (0, 0))).alloc (.cells zRice 24 (0, 0))).setRow (w.heap.size + 1) #[.int .i64 0, .int .i64 oI, .slice none 0 0, .slice none 0 0] = w1 at *
  generalize w.heap.size + 1 = b10 at *
  have c0 := blk_cell HX1.out 0
  have c1 := blk_cell HX1.out 1
  have c2 := blk_cell HX1.out 2
  have c3 := blk_cell HX1.out 3
  go_wp2_with fail
  with_reducible refine (HCS.out _).mono ?_
  rintro e w2 ⟨rfl, hb2⟩
  have hst0 : TrySt w w.heap.size b10 oI w2 (.slice none 0 0) (.slice none 0 0) [] [] :=
    ⟨HB1.out.trans (hb2.mono HB1.out.size), blk_below HZ1.out hb2, blk_below HX1.out hb2, IntsAt.nil _ _, IntsAt.nil _ _, Dis.nil_left _⟩
  have HST := Aside0.mk hst0
  clear hb2 c0 c1 c2 c3 HX1 HZ1 HB1 HCS HXX hst0
  obtain ⟨hj9, hj0, hj1, hj2, hj3, hj4⟩ := HJ.out
  go_wp2
  clear hj9 hj0 hj1 hj2 hj3 hj4
  go_loopw [11, 33] (fun sv iv wr => ∃ (i : Nat) (sum : Int) (vP vE : Value) (ps es : List Int), i ≤ N ∧ iv = .int .i64 i ∧ sv = .int .i64 sum ∧ 0 ≤ sum ∧ sum ≤ 6 + i * 1100000000004 ∧ ps.length = i ∧ es.length = i ∧ Aside0 (TrySt w w.heap.size b10 oI wr vP vE ps es) ∧ Aside0 (tryL l n Od (N - i) i sum ps es = X)) (fun _ iv _ => N - (intOf iv).toNat)
  case atStart => exact ⟨0, 6, .slice none 0 0, .slice none 0 0, [], [], Nat.zero_le _, rfl, rfl, by omega, by omega, rfl, rfl, HST, ⟨by rw [Nat.sub_zero]; exact HX.out⟩⟩
  case round =>
    clear HST HX
    obtain ⟨i, sum, vP, vE, ps, es, hi, rfl, rfl, s0, s1, hps, hes, HST, HX⟩ := hrel
    have HPS := Aside0.mk hps
    have HES := Aside0.mk hes
    clear hps hes
    by_cases hlt : i < N
    · have i0 : (0 : Int) ≤ (i : Int) := by omega
      have i1 : (i : Int) < (N : Int) := by omega
      obtain ⟨d, hd⟩ : ∃ d, N - i = d + 1 := ⟨N - i - 1, by omega⟩
      have hd2 : N - (i + 1) = d := by omega
      have HD := Aside0.mk hd2
      have HX2 : Aside0 ((if (leastF (partL l n Od i)).2 < 0 then none else tryL l n Od d (i + 1) (sum + (4 + (leastF (partL l n Od i)).2)) (ps ++ [(leastF (partL l n Od i)).1]) (es ++ [-1])) = X) := ⟨by
        have := HX.out
        rw [hd] at this
        unfold tryL at this
        exact this⟩
      obtain ⟨k0, k1, b0, b1⟩ := HLR.out i
      have HCi := Aside0.mk (fun (W : World) (AP AE : Option Addr) (nP cP nE cE : Nat) (h : Below w.heap.size w W) => HCUT.out i W AP AE nP cP nE cE h hlt)
      have HLi := Aside0.mk (HLEAST.out i)
      clear HX hd hd2
      generalize leastF (partL l n Od i) = lf at HLi HX2 k0 k1 b0 b1
      obtain ⟨kk, bb⟩ := lf
      simp only at HLi HX2 k0 k1 b0 b1
      generalize (partL l n Od i).length = pn at HLi HCi
      generalize partL l n Od i = pl at HLi HCi
      obtain ⟨AP, nP, cP, eP⟩ := HST.out.P.shape
      subst eP
      obtain ⟨AE, nE, cE, eE⟩ := HST.out.E.shape
      subst eE
      have c0 := blk_cell HST.out.r10 0
      have c1 := blk_cell HST.out.r10 1
      have c2 := blk_cell HST.out.r10 2
      have c3 := blk_cell HST.out.r10 3
      have HCC := Aside0.mk (HCi.out wr AP AE nP cP nE cE HST.out.bel)
      go_wp2_with fail
      with_reducible refine HCC.out.mono ?_
      rintro e w4 ⟨A4, rfl, hC4, _, hb4⟩
      have HST4 := Aside0.mk (HST.out.below hb4)
      have HLL := Aside0.mk (HLi.out w4 A4 hC4)
      clear hC4 hb4 HST HCC HCi HLi c0 c1 c2 c3
      go_wp2_with fail
      with_reducible refine HLL.out.mono ?_
      rintro e w5 ⟨rfl, hd5⟩
      have HST5 := Aside0.mk (HST4.out.below hd5.below)
      clear hd5 HST4 HLL
      by_cases hbb : bb < 0
      · have HXN : Aside0 (X = none) := ⟨by have := HX2.out; rw [if_pos hbb] at this; exact this.symm⟩
        go_wp2_with ((with_reducible refine wpList_store_row ?_ 24 (.tmp 8) (.tmp 48) ?_ w.heap.size zRice ?_ ?_ 24 zRice HST5.out.z8 (rc_info _ _ _ _) ?_ (rc_one _ _ _ _ _ _ _ _) ?_); rfl; rfl; rfl; rfl; rfl)
        refine bodyPost_ret (results_ct rfl _ _ w.heap.size 24 zRice (0, 0) _ rfl (setRow_heap _ _ _ _ _ _ HST5.out.z8) Try.underlying24 rfl (rc_info _ _ _ _)) rfl ?_
        exact .inl ⟨HXN.out, rfl, below_setRow HST5.out.bel (Nat.le_refl _) _⟩
      · have HX3 : Aside0 (tryL l n Od d (i + 1) (sum + (4 + bb)) (ps ++ [kk]) (es ++ [-1]) = X) := ⟨by have := HX2.out; rw [if_neg hbb] at this; exact this⟩
        have hiN : (i : Int) * 1100000000004 ≤ 32768 * 1100000000004 := by omega
        clear HX2
        go_upto_region 12 with fail
        have hst8 := HST5.out.below (below_drew (Below.refl w5.heap.size w5))
        have HST8 := Aside0.mk hst8
        have hst := TwoRows.start hst8.r10 (by decide) hst8.P hst8.E hst8.d3 hC10
        have hpl : ps.length ≤ 65536 := by have := HPS.out; omega
        have hel : es.length ≤ 65536 := by have := HES.out; omega
        clear hst8 HST5
        refine start_ (n := 13) (S := fun w' => w'.cell? ⟨b10, 2, none⟩ = some ((Value.slice AP nP cP)) ∧ w'.cell? ⟨b10, 3, none⟩ = some ((Value.slice AE nE cE))) (ds := [10, 12]) #[false, false, false, false, false, false, false, false, false, false, false, false, false] (by kernel_rfl) rfl rfl ⟨blk_cell hst.box 2, blk_cell hst.box 3⟩ (fun hHeld => ?_)
        refine pure_ (i := 0) (N := some 53) (v := ?_) (a' := ?_) #[true, false, false, false, false, false, false, false, false, false, false, false, false] rfl rfl (by kernel_rfl) (fun _ _ _ h => h) (Or.inl ⟨by rfl, ?_⟩) ?_ ?_
        rotate_left
        · intro w'
          go_simp
          with_reducible rfl
        rotate_left
        · simp only [Act.put, List.setIfInBounds_toArray, List.set_cons_zero, List.set_cons_succ, i64_w, i32_w]
          rfl
        refine pure_ (i := 2) (N := some 55) (v := ?_) (a' := ?_) #[true, false, true, false, false, false, false, false, false, false, false, false, false] rfl rfl (by kernel_rfl) (fun _ _ _ h => h) (Or.inl ⟨by rfl, ?_⟩) ?_ ?_
        rotate_left
        · intro w'
          go_simp
          with_reducible rfl
        rotate_left
        · simp only [Act.put, List.setIfInBounds_toArray, List.set_cons_zero, List.set_cons_succ, i64_w, i32_w]
          rfl
        refine pure_ (i := 5) (N := some 58) (v := ?_) (a' := ?_) #[true, false, true, false, false, true, false, false, false, false, false, false, false] rfl rfl (by kernel_rfl) (fun _ _ _ h => h) (Or.inl ⟨by rfl, ?_⟩) ?_ ?_
        rotate_left
        · intro w'
          go_simp
          with_reducible rfl
        rotate_left
        · simp only [Act.put, List.setIfInBounds_toArray, List.set_cons_zero, List.set_cons_succ, i64_w, i32_w]
          rfl
        refine take_ (i := 1) (N := some 54) (v := ?_) (a' := ?_) #[true, true, true, false, false, true, false, false, false, false, false, false, false] rfl rfl (by kernel_rfl) (fun _ _ _ h => h) (Or.inl ⟨by rfl, ?_⟩) hHeld ?_ ?_
        rotate_left
        · rintro w' ⟨s0, s1⟩
          go_simp
          with_reducible rfl
        rotate_left
        · simp only [Act.put, List.setIfInBounds_toArray, List.set_cons_zero, List.set_cons_succ, i64_w, i32_w]
          rfl
        refine take_ (i := 6) (N := some 59) (v := ?_) (a' := ?_) #[true, true, true, false, false, true, true, false, false, false, false, false, false] rfl rfl (by kernel_rfl) (fun _ _ _ h => h) (Or.inl ⟨by rfl, ?_⟩) hHeld ?_ ?_
        rotate_left
        · rintro w' ⟨s0, s1⟩
          go_simp
          with_reducible rfl
        rotate_left
        · simp only [Act.put, List.setIfInBounds_toArray, List.set_cons_zero, List.set_cons_succ, i64_w, i32_w]
          rfl
        refine join_ (σ := Nat × Value × Nat) 4 #[true, true, true, true, true, true, true, true, false, true, false, false, false] (fun s_ => [(56, .slice (some ⟨s_.1, 0, none⟩) 1 1), (57, s_.2.1), (60, .slice (some ⟨s_.2.2, 0, none⟩) 1 1), (62, .pointer (some ⟨b10, 2, none⟩))]) (fun s_ w' => (w'.cell? ⟨b10, 2, none⟩ = some ((Value.slice AP nP cP)) ∧ w'.cell? ⟨b10, 3, none⟩ = some ((Value.slice AE nE cE))) ∧ TwoRows w.heap.size b10 24 w5.drew ((Value.slice AP nP cP)) ((Value.slice AE nE cE)) w' #[.int .i64 0, .int .i64 oI, (Value.slice AP nP cP), (Value.slice AE nE cE)] s_.2.1 ((Value.slice AE nE cE)) (ps ++ [kk]) (es) ∧ w'.heap[s_.2.2]? = some (.cells #[.int .i64 (-1)] 3 (0, 0))) ?_ ?_
        rotate_left
        · intro hCont
          refine two_ (i := 3) (j := 7) (Ni := some 56) (Nj := some 60) #[true, true, true, true, false, true, true, false, false, false, false, false, false] #[true, true, true, false, false, true, true, true, false, false, false, false, false] rfl rfl rfl rfl (by kernel_rfl) (by decide) (by decide) (fun K hK => ?_) (fun K hK => ?_)
          · skip
            refine value_ (w1 := ?_) (v := ?_) (by rfl) rfl ?_ ?_
            rotate_left 2
            · go_simp
              constructor
              · rfl
              · rfl
            have hb1 : (w5.drew.alloc (.cells #[.int .i64 (kk)] 3 (0, 0))).heap[w5.heap.size]? = some (.cells #[.int .i64 (kk)] 3 (0, 0)) := by simpa using blk_new w5.drew (.cells #[.int .i64 (kk)] 3 (0, 0))
            have hs9 := hst.new (below_alloc (Below.refl _ _) (.cells #[.int .i64 (kk)] 3 (0, 0)))
            clear hst
            have hst := hs9
            clear hs9
            refine hK.out _ _ ⟨blk_cell hst.box 2, blk_cell hst.box 3⟩ (fun hHeld => ?_)
            clear hK K
            refine norm_ (a' := ?_) ?_ ?_
            rotate_left
            · show Act.put _ (some 56) _ = _
              simp only [Act.put, List.setIfInBounds_toArray, List.set_cons_zero, List.set_cons_succ, i64_w, i32_w]
              rfl
            refine two_ (i := 4) (j := 7) (Ni := some 57) (Nj := some 60) #[true, true, true, true, true, true, true, false, false, false, false, false, false] #[true, true, true, true, false, true, true, true, false, false, false, false, false] rfl rfl rfl rfl (by kernel_rfl) (by decide) (by decide) (fun K hK => ?_) (fun K hK => ?_)
            · skip
              refine app_lit_step (C := w.heap.size) (.tmp 54) (.tmp 56) (v := (Value.slice AP nP cP)) (xs := ps) (kk) ?_ ?_ ?_ ?_ hst.P hb1 hst.le (by omega) ?_
              · rfl
              · rfl
              · rfl
              · rfl
              intro v1 w1 hr1 hg1 ho1
              have hs9 := hst.growP hr1 hg1 ho1
              clear hr1 hg1 ho1 hst hb1
              have hst := hs9
              clear hs9
              refine hK.out _ _ ⟨blk_cell hst.box 2, blk_cell hst.box 3⟩ (fun hHeld => ?_)
              clear hK K
              refine norm_ (a' := ?_) ?_ ?_
              rotate_left
              · show Act.put _ (some 57) _ = _
                simp only [Act.put, List.setIfInBounds_toArray, List.set_cons_zero, List.set_cons_succ, i64_w, i32_w]
                rfl
              refine pure_ (i := 9) (N := some 62) (v := ?_) (a' := ?_) #[true, true, true, true, true, true, true, false, false, true, false, false, false] rfl rfl (by kernel_rfl) (fun _ _ _ h => h) (Or.inl ⟨by rfl, ?_⟩) ?_ ?_
              rotate_left
              · intro w'
                go_simp
                with_reducible rfl
              rotate_left
              · simp only [Act.put, List.setIfInBounds_toArray, List.set_cons_zero, List.set_cons_succ, i64_w, i32_w]
                rfl
              refine one_ (i := 7) (N := some 60) #[true, true, true, true, true, true, true, true, false, true, false, false, false] rfl rfl (by kernel_rfl) (by decide) (fun K hK => ?_)
              refine value_ (w1 := ?_) (v := ?_) (by rfl) rfl ?_ ?_
              rotate_left 2
              · go_simp
                constructor
                · rfl
                · rfl
              have hb2 : (w1.alloc (.cells #[.int .i64 (-1)] 3 (0, 0))).heap[w1.heap.size]? = some (.cells #[.int .i64 (-1)] 3 (0, 0)) := by simpa using blk_new w1 (.cells #[.int .i64 (-1)] 3 (0, 0))
              have hs9 := hst.new (below_alloc (Below.refl _ _) (.cells #[.int .i64 (-1)] 3 (0, 0)))
              clear hst
              have hst := hs9
              clear hs9
              refine hK.out _ _ ⟨blk_cell hst.box 2, blk_cell hst.box 3⟩ (fun hHeld => ?_)
              clear hK K
              refine norm_ (a' := ?_) ?_ ?_
              rotate_left
              · show Act.put _ (some 60) _ = _
                simp only [Act.put, List.setIfInBounds_toArray, List.set_cons_zero, List.set_cons_succ, i64_w, i32_w]
                rfl
              exact norm_ (by simp only [putAll, Act.put, List.setIfInBounds_toArray, List.set_cons_zero, List.set_cons_succ]) (hCont (⟨w5.heap.size, v1, w1.heap.size⟩ : Nat × Value × Nat) _ ⟨⟨blk_cell hst.box 2, blk_cell hst.box 3⟩, hst, hb2⟩)
            · skip
              refine value_ (w1 := ?_) (v := ?_) (by rfl) rfl ?_ ?_
              rotate_left 2
              · go_simp
                constructor
                · rfl
                · rfl
              have hb2 : ((w5.drew.alloc (.cells #[.int .i64 (kk)] 3 (0, 0))).alloc (.cells #[.int .i64 (-1)] 3 (0, 0))).heap[w5.heap.size + 1]? = some (.cells #[.int .i64 (-1)] 3 (0, 0)) := by simpa using blk_new (w5.drew.alloc (.cells #[.int .i64 (kk)] 3 (0, 0))) (.cells #[.int .i64 (-1)] 3 (0, 0))
              have hd2 : ∀ j, ((Value.slice AP nP cP)).ownBlock = some j → j ≠ w5.heap.size + 1 := fun j hj => Nat.ne_of_lt (by have h9 := hst.P.lt j hj; simp at h9; omega)
              have hb1' : ((w5.drew.alloc (.cells #[.int .i64 (kk)] 3 (0, 0))).alloc (.cells #[.int .i64 (-1)] 3 (0, 0))).heap[_]? = some _ := blk_alloc hb1 (.cells #[.int .i64 (-1)] 3 (0, 0))
              clear hb1
              have hb1 := hb1'
              clear hb1'
              have hs9 := hst.new (below_alloc (Below.refl _ _) (.cells #[.int .i64 (-1)] 3 (0, 0)))
              clear hst
              have hst := hs9
              clear hs9
              refine hK.out _ _ ⟨blk_cell hst.box 2, blk_cell hst.box 3⟩ (fun hHeld => ?_)
              clear hK K
              refine norm_ (a' := ?_) ?_ ?_
              rotate_left
              · show Act.put _ (some 60) _ = _
                simp only [Act.put, List.setIfInBounds_toArray, List.set_cons_zero, List.set_cons_succ, i64_w, i32_w]
                rfl
              refine one_ (i := 4) (N := some 57) #[true, true, true, true, true, true, true, true, false, false, false, false, false] rfl rfl (by kernel_rfl) (by decide) (fun K hK => ?_)
              refine app_lit_step (C := w.heap.size) (.tmp 54) (.tmp 56) (v := (Value.slice AP nP cP)) (xs := ps) (kk) ?_ ?_ ?_ ?_ hst.P hb1 hst.le (by omega) ?_
              · rfl
              · rfl
              · rfl
              · rfl
              intro v1 w1 hr1 hg1 ho1
              have hb2' := lit_kept hb2 hd2 hg1
              clear hb2 hd2
              have hb2 := hb2'
              clear hb2'
              have hs9 := hst.growP hr1 hg1 ho1
              clear hr1 hg1 ho1 hst hb1
              have hst := hs9
              clear hs9
              refine hK.out _ _ ⟨blk_cell hst.box 2, blk_cell hst.box 3⟩ (fun hHeld => ?_)
              clear hK K
              refine norm_ (a' := ?_) ?_ ?_
              rotate_left
              · show Act.put _ (some 57) _ = _
                simp only [Act.put, List.setIfInBounds_toArray, List.set_cons_zero, List.set_cons_succ, i64_w, i32_w]
                rfl
              refine pure_ (i := 9) (N := some 62) (v := ?_) (a' := ?_) #[true, true, true, true, true, true, true, true, false, true, false, false, false] rfl rfl (by kernel_rfl) (fun _ _ _ h => h) (Or.inl ⟨by rfl, ?_⟩) ?_ ?_
              rotate_left
              · intro w'
                go_simp
                with_reducible rfl
              rotate_left
              · simp only [Act.put, List.setIfInBounds_toArray, List.set_cons_zero, List.set_cons_succ, i64_w, i32_w]
                rfl
              exact norm_ (by simp only [putAll, Act.put, List.setIfInBounds_toArray, List.set_cons_zero, List.set_cons_succ]) (hCont (⟨w5.heap.size, v1, w5.heap.size + 1⟩ : Nat × Value × Nat) _ ⟨⟨blk_cell hst.box 2, blk_cell hst.box 3⟩, hst, hb2⟩)
          · skip
            refine value_ (w1 := ?_) (v := ?_) (by rfl) rfl ?_ ?_
            rotate_left 2
            · go_simp
              constructor
              · rfl
              · rfl
            have hb2 : (w5.drew.alloc (.cells #[.int .i64 (-1)] 3 (0, 0))).heap[w5.heap.size]? = some (.cells #[.int .i64 (-1)] 3 (0, 0)) := by simpa using blk_new w5.drew (.cells #[.int .i64 (-1)] 3 (0, 0))
            have hd2 : ∀ j, ((Value.slice AP nP cP)).ownBlock = some j → j ≠ w5.heap.size := fun j hj => Nat.ne_of_lt (by have h9 := hst.P.lt j hj; simp at h9; omega)
            have hs9 := hst.new (below_alloc (Below.refl _ _) (.cells #[.int .i64 (-1)] 3 (0, 0)))
            clear hst
            have hst := hs9
            clear hs9
            refine hK.out _ _ ⟨blk_cell hst.box 2, blk_cell hst.box 3⟩ (fun hHeld => ?_)
            clear hK K
            refine norm_ (a' := ?_) ?_ ?_
            rotate_left
            · show Act.put _ (some 60) _ = _
              simp only [Act.put, List.setIfInBounds_toArray, List.set_cons_zero, List.set_cons_succ, i64_w, i32_w]
              rfl
            refine one_ (i := 3) (N := some 56) #[true, true, true, true, false, true, true, true, false, false, false, false, false] rfl rfl (by kernel_rfl) (by decide) (fun K hK => ?_)
            refine value_ (w1 := ?_) (v := ?_) (by rfl) rfl ?_ ?_
            rotate_left 2
            · go_simp
              constructor
              · rfl
              · rfl
            have hb1 : ((w5.drew.alloc (.cells #[.int .i64 (-1)] 3 (0, 0))).alloc (.cells #[.int .i64 (kk)] 3 (0, 0))).heap[w5.heap.size + 1]? = some (.cells #[.int .i64 (kk)] 3 (0, 0)) := by simpa using blk_new (w5.drew.alloc (.cells #[.int .i64 (-1)] 3 (0, 0))) (.cells #[.int .i64 (kk)] 3 (0, 0))
            have hb2' : ((w5.drew.alloc (.cells #[.int .i64 (-1)] 3 (0, 0))).alloc (.cells #[.int .i64 (kk)] 3 (0, 0))).heap[_]? = some _ := blk_alloc hb2 (.cells #[.int .i64 (kk)] 3 (0, 0))
            clear hb2
            have hb2 := hb2'
            clear hb2'
            have hs9 := hst.new (below_alloc (Below.refl _ _) (.cells #[.int .i64 (kk)] 3 (0, 0)))
            clear hst
            have hst := hs9
            clear hs9
            refine hK.out _ _ ⟨blk_cell hst.box 2, blk_cell hst.box 3⟩ (fun hHeld => ?_)
            clear hK K
            refine norm_ (a' := ?_) ?_ ?_
            rotate_left
            · show Act.put _ (some 56) _ = _
              simp only [Act.put, List.setIfInBounds_toArray, List.set_cons_zero, List.set_cons_succ, i64_w, i32_w]
              rfl
            refine one_ (i := 4) (N := some 57) #[true, true, true, true, true, true, true, true, false, false, false, false, false] rfl rfl (by kernel_rfl) (by decide) (fun K hK => ?_)
            refine app_lit_step (C := w.heap.size) (.tmp 54) (.tmp 56) (v := (Value.slice AP nP cP)) (xs := ps) (kk) ?_ ?_ ?_ ?_ hst.P hb1 hst.le (by omega) ?_
            · rfl
            · rfl
            · rfl
            · rfl
            intro v1 w1 hr1 hg1 ho1
            have hb2' := lit_kept hb2 hd2 hg1
            clear hb2 hd2
            have hb2 := hb2'
            clear hb2'
            have hs9 := hst.growP hr1 hg1 ho1
            clear hr1 hg1 ho1 hst hb1
            have hst := hs9
            clear hs9
            refine hK.out _ _ ⟨blk_cell hst.box 2, blk_cell hst.box 3⟩ (fun hHeld => ?_)
            clear hK K
            refine norm_ (a' := ?_) ?_ ?_
            rotate_left
            · show Act.put _ (some 57) _ = _
              simp only [Act.put, List.setIfInBounds_toArray, List.set_cons_zero, List.set_cons_succ, i64_w, i32_w]
              rfl
            refine pure_ (i := 9) (N := some 62) (v := ?_) (a' := ?_) #[true, true, true, true, true, true, true, true, false, true, false, false, false] rfl rfl (by kernel_rfl) (fun _ _ _ h => h) (Or.inl ⟨by rfl, ?_⟩) ?_ ?_
            rotate_left
            · intro w'
              go_simp
              with_reducible rfl
            rotate_left
            · simp only [Act.put, List.setIfInBounds_toArray, List.set_cons_zero, List.set_cons_succ, i64_w, i32_w]
              rfl
            exact norm_ (by simp only [putAll, Act.put, List.setIfInBounds_toArray, List.set_cons_zero, List.set_cons_succ]) (hCont (⟨w5.heap.size + 1, v1, w5.heap.size⟩ : Nat × Value × Nat) _ ⟨⟨blk_cell hst.box 2, blk_cell hst.box 3⟩, hst, hb2⟩)
        rintro ⟨b1, v1, b2⟩ w5 ⟨hHeld, hst, hb2⟩
        refine norm_ (a' := ?_) ?_ ?_
        rotate_left
        · simp only [putAll, Act.put, List.setIfInBounds_toArray, List.set_cons_zero, List.set_cons_succ]
          rfl
        refine one_ (i := 8) (N := some 61) #[true, true, true, true, true, true, true, true, true, true, false, false, false] rfl rfl (by kernel_rfl) (by decide) (fun K hK => ?_)
        refine app_lit_step (C := w.heap.size) (.tmp 59) (.tmp 60) (v := (Value.slice AE nE cE)) (xs := es) (-1) ?_ ?_ ?_ ?_ hst.E hb2 hst.le (by omega) ?_
        · rfl
        · rfl
        · rfl
        · rfl
        intro v2 w6 hr2 hg2 ho2
        have hs9 := hst.growE hr2 hg2 ho2
        clear hr2 hg2 ho2 hst hb2
        have hst := hs9
        clear hs9
        obtain ⟨A1_, n1_, c1_, e1_⟩ := hst.P.shape
        subst e1_
        obtain ⟨A2_, n2_, c2_, e2_⟩ := hst.E.shape
        subst e2_
        have cP_ := blk_cell hst.box 2
        have cE_ := blk_cell hst.box 3
        have fP_ := blk_frozen hst.box 2
        have fE_ := blk_frozen hst.box 3
        refine hK.out _ _ ⟨blk_cell hst.box 2, blk_cell hst.box 3⟩ (fun hHeld => ?_)
        clear hK K
        refine norm_ (a' := ?_) ?_ ?_
        rotate_left
        · show Act.put _ (some 61) _ = _
          simp only [Act.put, List.setIfInBounds_toArray, List.set_cons_zero, List.set_cons_succ, i64_w, i32_w]
          rfl
        refine last_ (i := 10) (N := none) #[true, true, true, true, true, true, true, true, true, true, true, false, false] rfl rfl (by kernel_rfl) (by decide) (fun K hK => ?_)
        refine skip_ (w1 := ?_) (by rfl) rfl ?_ ?_
        rotate_left
        · go_simp
          rfl
        refine hK.out _ _ ?_
        clear hK K
        refine pure_ (i := 11) (N := some 63) (v := ?_) (a' := ?_) #[true, true, true, true, true, true, true, true, true, true, true, true, false] rfl rfl (by kernel_rfl) (fun _ _ _ h => h) (Or.inl ⟨by rfl, ?_⟩) ?_ ?_
        rotate_left
        · intro w'
          go_simp
          with_reducible rfl
        rotate_left
        · simp only [Act.put, List.setIfInBounds_toArray, List.set_cons_zero, List.set_cons_succ, i64_w, i32_w]
          rfl
        refine last_ (i := 12) (N := none) #[true, true, true, true, true, true, true, true, true, true, true, true, true] rfl rfl (by kernel_rfl) (by decide) (fun K hK => ?_)
        refine skip_ (w1 := ?_) (by rfl) rfl ?_ ?_
        rotate_left
        · go_simp
          rfl
        refine hK.out _ _ ?_
        clear hK K
        refine done_ (by kernel_rfl) ?_
        have hs9 := (hst.put 2 (.slice A1_ n1_ c1_) (cells2 := #[.int .i64 0, .int .i64 oI, (.slice A1_ n1_ c1_), (Value.slice AE nE cE)]) rfl).put 3 (.slice A2_ n2_ c2_) (cells2 := #[.int .i64 0, .int .i64 oI, (.slice A1_ n1_ c1_), (.slice A2_ n2_ c2_)]) rfl
        clear hst cP_ cE_ fP_ fE_
        have hst := hs9
        clear hs9
        have HST9 := Aside0.mk (HST8.out.two h810 hst)
        clear hst HST8
        go_wp2
        go_roundw
        case rel => exact ⟨i + 1, sum + (4 + bb), _, _, ps ++ [kk], es ++ [-1], by omega, by go_num, rfl, by omega, by omega, by rw [List.length_append, HPS.out]; rfl, by rw [List.length_append, HES.out]; rfl, HST9, ⟨by rw [HD.out]; exact HX3.out⟩⟩
        case measure => simp [intOf]; omega
    · obtain rfl : i = N := by omega
      have hXS : X = some (sum, ps, es) := by have := HX.out; rw [Nat.sub_self] at this; exact this.symm
      have HXS := Aside0.mk hXS
      clear hXS HX
      obtain ⟨AP_, nP_, cP_, eP_⟩ := HST.out.P.shape
      subst eP_
      obtain ⟨AE_, nE_, cE_, eE_⟩ := HST.out.E.shape
      subst eE_
      have c0 := blk_cell HST.out.r10 0
      have c1 := blk_cell HST.out.r10 1
      have c2 := blk_cell HST.out.r10 2
      have c3 := blk_cell HST.out.r10 3
      have i2 : ¬ (i : Int) < (i : Int) := Int.lt_irrefl _
      go_wp2_with ((with_reducible refine wpList_store_row ?_ 24 (.tmp 8) (.tmp 65) ?_ w.heap.size #[.int .i64 0, .int .i64 oI, .slice AP_ nP_ cP_, .slice AE_ nE_ cE_] ?_ ?_ 24 zRice HST.out.z8 (rc_info _ _ _ _) ?_ (rc_one _ _ _ _ _ _ _ _) ?_); rfl; rfl; rfl; rfl; rfl)
      refine bodyPost_ret (results_ct rfl _ _ w.heap.size 24 #[.int .i64 0, .int .i64 oI, .slice AP_ nP_ cP_, .slice AE_ nE_ cE_] (0, 0) _ rfl (setRow_heap _ _ _ _ _ _ HST.out.z8) Try.underlying24 rfl (rc_info _ _ _ _)) rfl ?_
      exact .inr ⟨sum, ps, es, _, _, HXS.out, rfl, HST.out.P.setRow HST.out.z8 (by decide), HST.out.E.setRow HST.out.z8 (by decide), below_setRow HST.out.bel (Nat.le_refl _) _⟩
end Go.Proofs.Ytfhekkoibmlmpaa.Hand

/- Contracts of layer 8, proved by hand: try, whatever comes; what the best recipe is. -/
namespace Go.Proofs.Ytfhekkoibmlmpaa.Hand
open Go.RowKit Go.Proofs.Ytfhekkoibmlmpaa.Q Go.Proofs.YtfhekkoibmlmpaaW.PrintWords Go.Proofs.YtfhekkoibmlmpaaW.PrintLast Go.Proofs.YtfhekkoibmlmpaaW.PrintMore
set_option linter.unusedVariables false
set_option linter.unusedSimpArgs false

/-- The number of bits, the parameters, the escapes of the best recipe of one order; none: there is none. -/
def tryF (block order : Int) (l : List Int) (o : Int) : Option (Int × List Int × List Int) :=
  if shapeP 0 o block order ∧ (l.length : Int) = block - order then tryL l (block / 2 ^ o.toNat).toNat order.toNat (2 ^ o.toNat) 0 6 [] [] else none
theorem try_any (o block order : Int) (l : List Int) (A : Option Addr) (c : Nat) (w : World) (hc : l.length ≤ c) (hA : Kd.C (Kd.int .i64) w A l.length l)
    (hin : ∀ x ∈ l, -9223372036854775808 ≤ x ∧ x ≤ 9223372036854775807) :
    Calls Try.prog 46 #[.int .i64 o, .int .i64 block, .int .i64 order, .slice A l.length c] w (TryPost o (tryF block order l o) w.heap.size w) := by
  by_cases h : shapeP 0 o block order ∧ (l.length : Int) = block - order
  · have e : tryF block order l o = tryL l (block / 2 ^ o.toNat).toNat order.toNat (2 ^ o.toNat) 0 6 [] [] := if_pos h
    rw [e]
    obtain ⟨hsh, hlen⟩ := h
    obtain ⟨O, Bk, Od, n, rfl, rfl, rfl, hO15, hB0, hB1, hOd, hdiv, hdn, hn, hm⟩ := shape_nat hsh
    rw [hn, Int.toNat_natCast, Int.toNat_natCast]
    exact try_go O Bk Od n l A c w hsh hO15 hB1 hOd hdiv hdn (by omega) hc hA hin
  · have e : tryF block order l o = none := if_neg h
    rw [e]
    refine (try_no o block order l A c w ?_).mono fun e w' ⟨h1, h2⟩ => .inl ⟨rfl, h1, h2⟩
    by_cases hs : shapeP 0 o block order
    · exact .inr ⟨hs, fun hl => h ⟨hs, hl⟩⟩
    · exact .inl hs
/-- A recipe with its bits: the order, the parameters, the escapes, how many bits (-1: none). -/
def betterF (b : Int × List Int × List Int × Int) (o : Int) : Option (Int × List Int × List Int) → Int × List Int × List Int × Int
  | none => b
  | some (n, ps, es) => if 0 ≤ n ∧ (b.2.2.2 < 0 ∨ n < b.2.2.2) then (o, ps, es, n) else b
def bestL (block order : Int) (l : List Int) : Nat → Nat → Int × List Int × List Int × Int → Int × List Int × List Int × Int
  | 0, _, b => b
  | d + 1, o, b => bestL block order l d (o + 1) (betterF b (o : Int) (tryF block order l (o : Int)))
def bestF (block order : Int) (l : List Int) : Int × List Int × List Int × Int := bestL block order l 5 0 (0, [], [], -1)
end Go.Proofs.Ytfhekkoibmlmpaa.Hand

/- Contracts of layer 8, proved by hand: Best. -/
namespace Go.Proofs.Ytfhekkoibmlmpaa.Hand
open Go.RowKit Go.Proofs.Ytfhekkoibmlmpaa.Q Go.Proofs.YtfhekkoibmlmpaaW.PrintWords Go.Proofs.YtfhekkoibmlmpaaW.PrintLast Go.Proofs.YtfhekkoibmlmpaaW.PrintMore
set_option linter.unusedVariables false
set_option linter.unusedSimpArgs false

structure BestSt (w : World) (b6 b8 : Nat) (o : Int) (wr : World) (vP vE : Value) (ps es : List Int) : Prop where
  bel : Below w.heap.size w wr
  z6 : wr.heap[b6]? = some (.cells zRice 24 (0, 0))
  r8 : wr.heap[b8]? = some (.cells #[.int .i64 0, .int .i64 o, vP, vE] 24 (0, 0))
  P : IntsAt wr w.heap.size vP ps
  E : IntsAt wr w.heap.size vE es
theorem BestSt.below {w : World} {b6 b8 : Nat} {o : Int} {wr w' : World} {vP vE : Value} {ps es : List Int} (h : BestSt w b6 b8 o wr vP vE ps es) (hb : Below wr.heap.size wr w') : BestSt w b6 b8 o w' vP vE ps es :=
  ⟨h.bel.trans (hb.mono h.bel.size), blk_below h.z6 hb, blk_below h.r8 hb, h.P.below hb, h.E.below hb⟩
theorem BestSt.put {w : World} {b6 b8 : Nat} {o o' : Int} {wr : World} {vP vE vP' vE' : Value} {ps es ps' es' : List Int} (h : BestSt w b6 b8 o wr vP vE ps es) (h68 : b6 ≠ b8) (h8 : w.heap.size ≤ b8) (hP : IntsAt wr w.heap.size vP' ps') (hE : IntsAt wr w.heap.size vE' es') :
    BestSt w b6 b8 o' (wr.setRow b8 #[.int .i64 0, .int .i64 o', vP', vE']) vP' vE' ps' es' :=
  ⟨below_setRow h.bel h8 _, by rw [setRow_other _ _ _ _ h68]; exact h.z6, setRow_heap _ _ _ _ _ _ h.r8, hP.setRow h.r8 (by decide), hE.setRow h.r8 (by decide)⟩
theorem better_take {bo o n sum : Int} {ps es ps' es' : List Int} (h : 0 ≤ sum ∧ (n < 0 ∨ sum < n)) : betterF (bo, ps, es, n) o (some (sum, ps', es')) = (o, ps', es', sum) := if_pos h
theorem better_keep {bo o n sum : Int} {ps es ps' es' : List Int} (h : ¬ (0 ≤ sum ∧ (n < 0 ∨ sum < n))) : betterF (bo, ps, es, n) o (some (sum, ps', es')) = (bo, ps, es, n) := if_neg h
set_option maxHeartbeats 16000000 in
set_option maxRecDepth 100000 in
theorem Best_any (block order : Int) (l : List Int) (A : Option Addr) (c : Nat) (w : World) (hc : l.length ≤ c) (hA : Kd.C (Kd.int .i64) w A l.length l)
    (hin : ∀ x ∈ l, -9223372036854775808 ≤ x ∧ x ≤ 9223372036854775807) :
    Calls Try.prog 26 #[.int .i64 block, .int .i64 order, .slice A l.length c] w fun e w' => ∃ vP vE,
      e = .returned (.tuple #[.agg #[.int .i64 0, .int .i64 (bestF block order l).1, vP, vE], .int .i64 (bestF block order l).2.2.2]) ∧
      IntsAt w' w.heap.size vP (bestF block order l).2.1 ∧ IntsAt w' w.heap.size vE (bestF block order l).2.2.1 ∧ Below w.heap.size w w' := by
  have HTRY : Aside0 (∀ (i : Nat) (W : World), Below w.heap.size w W → Calls Try.prog 46 #[.int .i64 i, .int .i64 block, .int .i64 order, .slice A l.length c] W (TryPost i (tryF block order l i) W.heap.size W)) := ⟨fun i W hW =>
    try_any i block order l A c W hc (Kd.C_below hA hW) hin⟩
  obtain ⟨X, hX⟩ : ∃ X, bestF block order l = X := ⟨_, rfl⟩
  rw [hX]
  have HX := Aside0.mk hX
  clear hX hA hin hc
  have hb1 : Below w.heap.size w ((w.alloc (.cells zRice 24 (0, 0))).alloc (.cells zRice 24 (0, 0))) := below_alloc (below_alloc (Below.refl _ _) _) _
  have hz : ((w.alloc (.cells zRice 24 (0, 0))).alloc (.cells zRice 24 (0, 0))).heap[w.heap.size]? = some (.cells zRice 24 (0, 0)) := blk_alloc (blk_new w _) _
  have hx : ((w.alloc (.cells zRice 24 (0, 0))).alloc (.cells zRice 24 (0, 0))).heap[w.heap.size + 1]? = some (.cells zRice 24 (0, 0)) := by simpa using blk_new (w.alloc (.cells zRice 24 (0, 0))) (.cells zRice 24 (0, 0))
  have hst0 : BestSt w w.heap.size (w.heap.size + 1) 0 (((w.alloc (.cells zRice 24 (0, 0))).alloc (.cells zRice 24 (0, 0))).setRow (w.heap.size + 1) zRice) (.slice none 0 0) (.slice none 0 0) [] [] :=
    ⟨below_setRow hb1 (Nat.le_succ _) _, by rw [setRow_other _ _ _ _ (by omega)]; exact hz, setRow_heap _ _ _ _ _ _ hx, IntsAt.nil _ _, IntsAt.nil _ _⟩
  have HST := Aside0.mk hst0
  have HXX := Aside0.mk hx
  have h68 : w.heap.size ≠ w.heap.size + 1 := by omega
  have hC8 : w.heap.size ≤ w.heap.size + 1 := by omega
  clear hb1 hz hx hst0
  go_enter Try.func26, Try.ntmps26
  go_upto_region 2 with ((with_reducible refine wpList_store_row ?_ 24 (.tmp 8) (.tmp 13) ?_ (w.heap.size + 1) zRice ?_ ?_ 24 zRice HXX.out (rc_info _ _ _ _) ?_ (rc_one _ _ _ _ _ _ _ _) ?_); rfl; rfl; rfl; rfl; rfl)
  generalize ((w.alloc (.cells zRice 24 (0, 0))).alloc (.cells zRice 24 (0, 0))).setRow (w.heap.size + 1) zRice = w1 at *
  generalize w.heap.size + 1 = b8 at *
  clear HXX
  go_wp2
  go_loopw [9, 14] (fun sv iv wr => ∃ (i : Nat) (bo n : Int) (vP vE : Value) (ps es : List Int), i ≤ 5 ∧ iv = .int .i64 i ∧ sv = .int .i64 n ∧ Aside0 (BestSt w w.heap.size b8 bo wr vP vE ps es) ∧ Aside0 (bestL block order l (5 - i) i (bo, ps, es, n) = X)) (fun _ iv _ => 5 - (intOf iv).toNat)
  case atStart => exact ⟨0, 0, -1, .slice none 0 0, .slice none 0 0, [], [], by omega, rfl, rfl, HST, HX⟩
  case round =>
    clear HST HX
    obtain ⟨i, bo, n, vP, vE, ps, es, hi, rfl, rfl, HST, HX⟩ := hrel
    by_cases hlt : i < 5
    · have i1 : (i : Int) < 5 := by omega
      obtain ⟨d, hd⟩ : ∃ d, 5 - i = d + 1 := ⟨5 - i - 1, by omega⟩
      have hd2 : 5 - (i + 1) = d := by omega
      have HD := Aside0.mk hd2
      have HX2 : Aside0 (bestL block order l d (i + 1) (betterF (bo, ps, es, n) (i : Int) (tryF block order l (i : Int))) = X) := ⟨by
        have := HX.out
        rw [hd] at this
        exact this⟩
      have HT := Aside0.mk (HTRY.out i wr HST.out.bel)
      clear HX hd hd2
      generalize tryF block order l (i : Int) = Y at HT HX2
      go_wp2_with fail
      with_reducible refine HT.out.mono ?_
      rintro e w4 hpost
      clear HT
      rcases hpost with ⟨rfl, rfl, hb4⟩ | ⟨sum, ps', es', vP', vE', rfl, rfl, hP', hE', hb4⟩
      · have HST4 := Aside0.mk (HST.out.below (hb4.trans ((below_setRow (below_alloc (Below.refl w4.heap.size w4) (.cells zRice 24 (0, 0))) (Nat.le_refl _) zRice).mono hb4.size)))
        have HN := Aside0.mk (blk_new w4 (.cells zRice 24 (0, 0)))
        clear hb4 HST
        go_wp2_with ((with_reducible refine wpList_store_row ?_ 24 (.tmp 11) (.tmp 23) ?_ (w4.heap.size) (zRice) ?_ ?_ 24 (zRice) (HN.out) (rc_info _ _ _ _) ?_ (rc_one _ _ _ _ _ _ _ _) ?_); rfl; rfl; rfl; rfl; rfl)
        go_roundw
        case rel => exact ⟨i + 1, bo, n, vP, vE, ps, es, by omega, by go_num, rfl, HST4, ⟨by rw [HD.out]; exact HX2.out⟩⟩
        case measure => simp [intOf]; omega
      · obtain ⟨AP, nP, cP, eP⟩ := hP'.shape
        subst eP
        obtain ⟨AE, nE, cE, eE⟩ := hE'.shape
        subst eE
        have hbN : Below w4.heap.size w4 ((w4.alloc (.cells zRice 24 (0, 0))).setRow w4.heap.size #[.int .i64 0, .int .i64 (i : Int), .slice AP nP cP, .slice AE nE cE]) := below_setRow (below_alloc (Below.refl w4.heap.size w4) (.cells zRice 24 (0, 0))) (Nat.le_refl _) _
        have HST4 := Aside0.mk (HST.out.below (hb4.trans (hbN.mono hb4.size)))
        have HP4 := Aside0.mk ((hP'.lower HST.out.bel.size).below hbN)
        have HE4 := Aside0.mk ((hE'.lower HST.out.bel.size).below hbN)
        have HN := Aside0.mk (blk_new w4 (.cells zRice 24 (0, 0)))
        have HN4 := Aside0.mk (setRow_heap _ _ _ #[.int .i64 0, .int .i64 (i : Int), .slice AP nP cP, .slice AE nE cE] _ _ HN.out)
        clear hb4 HST hP' hE' hbN
        go_upto_region 6 with ((with_reducible refine wpList_store_row ?_ 24 (.tmp 11) (.tmp 23) ?_ (w4.heap.size) (#[.int .i64 0, .int .i64 (i : Int), .slice AP nP cP, .slice AE nE cE]) ?_ ?_ 24 (zRice) (HN.out) (rc_info _ _ _ _) ?_ (rc_one _ _ _ _ _ _ _ _) ?_); rfl; rfl; rfl; rfl; rfl)
        generalize (w4.alloc (.cells zRice 24 (0, 0))).setRow w4.heap.size #[.int .i64 0, .int .i64 (i : Int), .slice AP nP cP, .slice AE nE cE] = w5 at *
        generalize w4.heap.size = b11 at *
        clear HN
        by_cases g0 : 0 ≤ sum
        · by_cases g1 : n < 0
          · have HX3 : Aside0 (bestL block order l d (i + 1) ((i : Int), ps', es', sum) = X) := ⟨by have := HX2.out; rwa [better_take (by omega)] at this⟩
            clear HX2
            have HST6 := Aside0.mk (HST4.out.put (o' := (i : Int)) h68 hC8 HP4.out HE4.out)
            have HR8 := Aside0.mk HST4.out.r8
            have c0 := blk_cell HN4.out 0
            have c1 := blk_cell HN4.out 1
            have c2 := blk_cell HN4.out 2
            have c3 := blk_cell HN4.out 3
            go_wp2_with ((with_reducible refine wpList_store_row ?_ 24 (.tmp 8) (.tmp 36) ?_ (b8) (#[.int .i64 0, .int .i64 (i : Int), .slice AP nP cP, .slice AE nE cE]) ?_ ?_ 24 (#[.int .i64 0, .int .i64 bo, vP, vE]) (HR8.out) (rc_info _ _ _ _) ?_ (rc_one _ _ _ _ _ _ _ _) ?_); rfl; rfl; rfl; rfl; rfl)
            clear c0 c1 c2 c3
            go_roundw
            case rel => exact ⟨i + 1, (i : Int), sum, _, _, ps', es', by omega, by go_num, rfl, HST6, ⟨by rw [HD.out]; exact HX3.out⟩⟩
            case measure => simp [intOf]; omega
          · by_cases g2 : sum < n
            · have HX3 : Aside0 (bestL block order l d (i + 1) ((i : Int), ps', es', sum) = X) := ⟨by have := HX2.out; rwa [better_take (by omega)] at this⟩
              clear HX2
              have HST6 := Aside0.mk (HST4.out.put (o' := (i : Int)) h68 hC8 HP4.out HE4.out)
              have HR8 := Aside0.mk HST4.out.r8
              have c0 := blk_cell HN4.out 0
              have c1 := blk_cell HN4.out 1
              have c2 := blk_cell HN4.out 2
              have c3 := blk_cell HN4.out 3
              go_wp2_with ((with_reducible refine wpList_store_row ?_ 24 (.tmp 8) (.tmp 36) ?_ (b8) (#[.int .i64 0, .int .i64 (i : Int), .slice AP nP cP, .slice AE nE cE]) ?_ ?_ 24 (#[.int .i64 0, .int .i64 bo, vP, vE]) (HR8.out) (rc_info _ _ _ _) ?_ (rc_one _ _ _ _ _ _ _ _) ?_); rfl; rfl; rfl; rfl; rfl)
              clear c0 c1 c2 c3
              go_roundw
              case rel => exact ⟨i + 1, (i : Int), sum, _, _, ps', es', by omega, by go_num, rfl, HST6, ⟨by rw [HD.out]; exact HX3.out⟩⟩
              case measure => simp [intOf]; omega
            · have HX3 : Aside0 (bestL block order l d (i + 1) (bo, ps, es, n) = X) := ⟨by have := HX2.out; rwa [better_keep (by omega)] at this⟩
              clear HX2
              go_wp2
              go_roundw
              case rel => exact ⟨i + 1, bo, n, vP, vE, ps, es, by omega, by go_num, rfl, HST4, ⟨by rw [HD.out]; exact HX3.out⟩⟩
              case measure => simp [intOf]; omega
        · have g0' : sum < 0 := by omega
          have HX3 : Aside0 (bestL block order l d (i + 1) (bo, ps, es, n) = X) := ⟨by have := HX2.out; rwa [better_keep (by omega)] at this⟩
          clear HX2
          go_wp2
          go_roundw
          case rel => exact ⟨i + 1, bo, n, vP, vE, ps, es, by omega, by go_num, rfl, HST4, ⟨by rw [HD.out]; exact HX3.out⟩⟩
          case measure => simp [intOf]; omega
    · obtain rfl : i = 5 := by omega
      have HXS : Aside0 (X = (bo, ps, es, n)) := ⟨HX.out.symm⟩
      clear HX
      obtain ⟨AP, nP, cP, eP⟩ := HST.out.P.shape
      subst eP
      obtain ⟨AE, nE, cE, eE⟩ := HST.out.E.shape
      subst eE
      have c0 := blk_cell HST.out.r8 0
      have c1 := blk_cell HST.out.r8 1
      have c2 := blk_cell HST.out.r8 2
      have c3 := blk_cell HST.out.r8 3
      go_wp2_with ((with_reducible refine wpList_store_row ?_ 24 (.tmp 6) (.tmp 39) ?_ (w.heap.size) (#[.int .i64 0, .int .i64 bo, .slice AP nP cP, .slice AE nE cE]) ?_ ?_ 24 (zRice) (HST.out.z6) (rc_info _ _ _ _) ?_ (rc_one _ _ _ _ _ _ _ _) ?_); rfl; rfl; rfl; rfl; rfl)
      refine bodyPost_ret (results_ct rfl _ _ w.heap.size 24 #[.int .i64 0, .int .i64 bo, .slice AP nP cP, .slice AE nE cE] (0, 0) _ rfl (setRow_heap _ _ _ _ _ _ HST.out.z6) Try.underlying24 rfl (rc_info _ _ _ _)) rfl ?_
      rw [HXS.out]
      exact ⟨_, _, rfl, HST.out.P.setRow HST.out.z6 (by decide), HST.out.E.setRow HST.out.z6 (by decide), below_setRow HST.out.bel (Nat.le_refl _) _⟩
end Go.Proofs.Ytfhekkoibmlmpaa.Hand

/- Contracts of layer 8, proved by hand: what is the same is the same; short lists. -/
namespace Go.Proofs.Ytfhekkoibmlmpaa.Hand
open Go.RowKit Go.Proofs.Ytfhekkoibmlmpaa.Q Go.Proofs.YtfhekkoibmlmpaaW.PrintWords Go.Proofs.YtfhekkoibmlmpaaW.PrintLast Go.Proofs.YtfhekkoibmlmpaaW.PrintMore
set_option linter.unusedVariables false
set_option linter.unusedSimpArgs false

theorem ints_loop (a : List Int) (h : a.length ≤ 9223372036854775807) : ∀ d i : Nat, i + d = a.length → lacquerref05_Ints.l0 (d + 1) a a (i : Int) = some true
  | 0, i, hi => by
    simp only [lacquerref05_Ints.l0]
    rw [if_neg (by omega)]
  | d + 1, i, hi => by
    have ih := ints_loop a h d (i + 1) (by omega)
    rw [lacquerref05_Ints.l0]
    rw [if_pos (by omega), if_pos (by omega), if_pos (by omega), if_pos rfl, w64h _ (by omega) (by omega)]
    exact ih
theorem Ints_same (l : List Int) (hl : l.length ≤ 9223372036854775807) (A : Option Addr) (c : Nat) (B : Option Addr) (d : Nat) (w : World) (hA : Kd.C (Kd.int .i64) w A l.length l) (hc : l.length ≤ c) (hB : Kd.C (Kd.int .i64) w B l.length l) (hd : l.length ≤ d) :
    Calls Try.prog 23 #[.slice A l.length c, .slice B l.length d] w fun e w' => e = .returned (.bool true) ∧ Drawn0 w w' := by
  refine lacquerref05_Ints.calls (l.length + 1) A c l B d l true w hA hc hB hd ?_
  unfold lacquerref05_Ints.f
  rw [if_pos rfl]
  exact ints_loop l hl l.length 0 (by omega)
theorem same_l1 (m o : Int) (ps es : List Int) (h : es.length ≤ 9223372036854775807) : ∀ d i : Nat, i + d = es.length → lacquerref08_Same.l1 (d + 1) (i : Int) m o ps es m o ps es = some true
  | 0, i, hi => by
    simp only [lacquerref08_Same.l1]
    rw [if_neg (by omega)]
  | d + 1, i, hi => by
    have ih := same_l1 m o ps es h d (i + 1) (by omega)
    rw [lacquerref08_Same.l1]
    rw [if_pos (by omega), if_pos (by omega), if_pos (by omega), if_pos rfl, w64h _ (by omega) (by omega)]
    exact ih
theorem same_l0 (m o : Int) (ps es : List Int) (h : es.length ≤ 9223372036854775807) (hp : ps.length ≤ 9223372036854775807) : ∀ d i : Nat, i + d = ps.length → lacquerref08_Same.l0 (d + 1 + (es.length + 1)) (i : Int) m o ps es m o ps es = some true
  | 0, i, hi => by
    rw [show 0 + 1 + (es.length + 1) = (es.length + 1) + 1 by omega, lacquerref08_Same.l0]
    rw [if_neg (by omega)]
    exact same_l1 m o ps es h es.length 0 (by omega)
  | d + 1, i, hi => by
    have ih := same_l0 m o ps es h hp d (i + 1) (by omega)
    rw [show d + 1 + 1 + (es.length + 1) = (d + 1 + (es.length + 1)) + 1 by omega, lacquerref08_Same.l0]
    rw [if_pos (by omega), if_pos (by omega), if_pos (by omega), if_pos rfl, w64h _ (by omega) (by omega)]
    exact ih
theorem Same_same (m o : Int) (ps es : List Int) (h : es.length ≤ 9223372036854775807) (hp : ps.length ≤ 9223372036854775807) (AP AE BP BE : Option Addr) (cP cE dP dE : Nat) (w : World) (hAP : Kd.C (Kd.int .i64) w AP ps.length ps) (hcP : ps.length ≤ cP)
    (hAE : Kd.C (Kd.int .i64) w AE es.length es) (hcE : es.length ≤ cE) (hBP : Kd.C (Kd.int .i64) w BP ps.length ps) (hdP : ps.length ≤ dP) (hBE : Kd.C (Kd.int .i64) w BE es.length es) (hdE : es.length ≤ dE) :
    Calls Try.prog 24 #[.agg #[.int .i64 m, .int .i64 o, .slice AP ps.length cP, .slice AE es.length cE], .agg #[.int .i64 m, .int .i64 o, .slice BP ps.length dP, .slice BE es.length dE]] w fun e w' => e = .returned (.bool true) ∧ Below w.heap.size w w' := by
  refine lacquerref08_Same.calls (ps.length + 1 + (es.length + 1) + 1) m o AP cP ps AE cE es m o BP dP ps BE dE es true w hAP hcP hAE hcE hBP hdP hBE hdE ?_
  unfold lacquerref08_Same.f
  rw [if_pos rfl, if_pos rfl, if_pos rfl, lacquerref08_Same.j0]
  rw [if_neg (by simp)]
  exact same_l0 m o ps es h hp ps.length 0 (by omega)
/-- Short lists. -/
def shortP (l : List Int) : Prop := (∀ x ∈ l, -4000 ≤ x ∧ x ≤ 4000) ∧ l.length ≤ 5000
instance (l : List Int) : Decidable (shortP l) := by unfold shortP; infer_instance
theorem short_l0 (l : List Int) (h : l.length ≤ 9223372036854775807) : ∀ d i : Nat, i + d = l.length → lacquerlaw08_short.l0 (d + 1) l (i : Int) = some (decide ((∀ x ∈ l.drop i, -4000 ≤ x ∧ x ≤ 4000) ∧ l.length ≤ 5000))
  | 0, i, hi => by
    simp only [lacquerlaw08_short.l0]
    rw [if_neg (by omega), List.drop_eq_nil_of_le (by omega)]
    congr 1
    simp
    omega
  | d + 1, i, hi => by
    have ih := short_l0 l h d (i + 1) (by omega)
    have hlt : i < l.length := by omega
    have hrd : rd l (i : Nat) = l[i] := by simp [rd, hlt]
    rw [lacquerlaw08_short.l0]
    rw [if_pos (by omega), if_pos (by omega), w64h _ (by omega) (by omega), List.drop_eq_getElem_cons hlt, ← hrd]
    generalize rd l (i : Nat) = x
    by_cases h1 : x > 4000
    · rw [if_pos h1, decide_eq_false]
      intro hh
      have := hh.1 x List.mem_cons_self
      omega
    · rw [if_neg h1]
      by_cases h2 : x < -4000
      · rw [if_pos h2, decide_eq_false]
        intro hh
        have := hh.1 x List.mem_cons_self
        omega
      · rw [if_neg h2]
        refine ih.trans ?_
        congr 1
        rw [decide_eq_decide]
        simp only [List.forall_mem_cons]
        constructor
        · exact fun hh => ⟨⟨⟨by omega, by omega⟩, hh.1⟩, hh.2⟩
        · exact fun hh => ⟨hh.1.2, hh.2⟩
theorem short_any (l : List Int) (h : l.length ≤ 9223372036854775807) (A : Option Addr) (c : Nat) (w : World) (hA : Kd.C (Kd.int .i64) w A l.length l) (hc : l.length ≤ c) :
    Calls Try.prog 8 #[.slice A l.length c] w fun e w' => e = .returned (.bool (decide (shortP l))) ∧ Drawn0 w w' := by
  refine lacquerlaw08_short.calls (l.length + 1) A c l _ w hA hc ?_
  unfold lacquerlaw08_short.f
  have := short_l0 l h l.length 0 (by omega)
  rw [List.drop_zero] at this
  exact this
end Go.Proofs.Ytfhekkoibmlmpaa.Hand

/- Contracts of layer 1, proved by hand: the reference's writer. -/
namespace Go.Proofs.Ytfhekkoibmlmpaa.Hand
open Go.RowKit
set_option linter.unusedVariables false
set_option linter.unusedSimpArgs false

/-- The bytes, with noughts up to m. -/
def padP (bs : List Bool) (m : Nat) : List Int := (List.range m).map fun j => ((val ((bs.drop (8 * j)).take 8) 128 : Nat) : Int)
theorem padP_length (bs : List Bool) (m : Nat) : (padP bs m).length = m := by simp [padP]
theorem padP_pack (bs : List Bool) : padP bs ((bs.length + 7) / 8) = pack bs := rfl
theorem padP_nil (m : Nat) : padP [] m = List.replicate m 0 := by
  apply List.ext_getElem
  · simp [padP]
  · intro i h1 h2
    simp [padP, val]
theorem padP_get (bs : List Bool) (m j : Nat) (h : j < m) : (padP bs m).getD j 0 = ((val ((bs.drop (8 * j)).take 8) 128 : Nat) : Int) := by simp [padP, List.getD_eq_getElem?_getD, h]
def bitV (b : Bool) (r : Nat) : Nat := if b then 128 / 2 ^ r else 0
theorem padP_snoc (bs : List Bool) (b : Bool) (m : Nat) (h : bs.length / 8 < m) : padP (bs ++ [b]) m = (padP bs m).set (bs.length / 8) ((padP bs m).getD (bs.length / 8) 0 + (bitV b (bs.length % 8) : Nat)) ∧ 0 ≤ (padP bs m).getD (bs.length / 8) 0 ∧ (padP bs m).getD (bs.length / 8) 0 + (bitV b (bs.length % 8) : Nat) < 256 := by
  have hl := last_length bs
  have hx : (padP bs m).getD (bs.length / 8) 0 = ((val (bs.drop (8 * (bs.length / 8))) 128 : Nat) : Int) := by
    rw [padP_get bs m _ h, List.take_of_length_le (by omega)]
  have hs : val (bs.drop (8 * (bs.length / 8)) ++ [b]) 128 = val (bs.drop (8 * (bs.length / 8))) 128 + bitV b (bs.length % 8) := by
    rw [val_snoc, hl]
    rfl
  have hlt := val_lt (bs.drop (8 * (bs.length / 8)) ++ [b]) 7
  rw [show (2 : Nat) ^ 7 = 128 from rfl, hs] at hlt
  rw [hx]
  refine ⟨?_, by omega, by omega⟩
  apply List.ext_getElem
  · simp [padP]
  · intro j h1 h2
    rw [padP_length] at h1
    rw [List.getElem_set]
    by_cases hj : bs.length / 8 = j
    · rw [if_pos hj]
      subst hj
      simp only [padP, List.getElem_map, List.getElem_range, chunk_last, hs]
      omega
    · rw [if_neg hj]
      simp only [padP, List.getElem_map, List.getElem_range]
      rcases Nat.lt_or_ge j (bs.length / 8) with hlt | hge
      · rw [chunk_in bs b j (by omega)]
      · rw [List.drop_eq_nil_of_le (show (bs ++ [b]).length ≤ 8 * j by rw [List.length_append, List.length_singleton]; omega), List.drop_eq_nil_of_le (show bs.length ≤ 8 * j by omega)]
end Go.Proofs.Ytfhekkoibmlmpaa.Hand
namespace Go.Proofs.Ytfhekkoibmlmpaa.Hand
open Go.RowKit Go.Proofs.Ytfhekkoibmlmpaa.Q Go.Proofs.YtfhekkoibmlmpaaW.PrintWords Go.Proofs.YtfhekkoibmlmpaaW.PrintLast Go.Proofs.YtfhekkoibmlmpaaW.PrintMore
set_option linter.unusedVariables false
set_option linter.unusedSimpArgs false

theorem Fold_any (n : Int) (h0 : -9223372036854775808 ≤ n) (h1 : n ≤ 9223372036854775807) (w : World) : Calls Try.prog 47 #[.int .i64 n] w fun e w' => e = .returned (.int .u64 (foldN n)) ∧ Drawn0 w w' := by
  refine lacquerref01_Fold.calls n _ w ?_
  unfold lacquerref01_Fold.f foldN
  by_cases h : n ≥ 0
  · rw [if_pos h, if_pos (by omega)]
    congr 1
    rw [u64_wrap, u64_wrap]
    omega
  · rw [if_neg h, if_neg (by omega)]
    congr 1
    rw [u64_wrap, u64_wrap, u64_wrap]
    unfold wrap64
    omega
def b01 (b : Bool) : Int := if b then 1 else 0
def ones (bs : List Bool) : List Int := bs.map b01
theorem ones_snoc (bs : List Bool) (b : Bool) : ones (bs ++ [b]) = ones bs ++ [b01 b] := by simp [ones]
theorem ones_length (bs : List Bool) : (ones bs).length = bs.length := by simp [ones]
/-- The reference's writer of these bits: a byte each. -/
def XW (w : World) (B g : Nat) (v : Value) (bs : List Bool) : Prop := w.heap[g]? = some (.cells #[v] 33 (0, 0)) ∧ BytesAt w B v (ones bs) ∧ B ≤ g
theorem XW.below {w w' : World} {B g : Nat} {v : Value} {bs : List Bool} (h : XW w B g v bs) (hb : Below w.heap.size w w') : XW w' B g v bs := ⟨blk_below h.1 hb, h.2.1.below hb, h.2.2⟩
theorem XW.lt {w : World} {B g : Nat} {v : Value} {bs : List Bool} (h : XW w B g v bs) : g < w.heap.size := blk_lt h.1
theorem XW.grown {W w1 : World} {B g : Nat} {v : Value} {bs : List Bool} (h : XW W B g v bs) (hg : W.grownBy w1 v.ownBlock) : w1.heap[g]? = some (.cells #[v] 33 (0, 0)) := by
  rw [hg.block g h.lt (fun e => ?_)]
  · exact h.1
  · exact Kd.R_ne h.2.1.all h.1 (by decide) e
theorem XW.put {w1 : World} {B g : Nat} {v v1 : Value} {bs : List Bool} {one : Bool} (hb : w1.heap[g]? = some (.cells #[v] 33 (0, 0))) (hr : BytesAt w1 B v1 (ones bs ++ [b01 one])) (hB : B ≤ g) : XW (w1.setCell ⟨g, 0, none⟩ v1) B g v1 (bs ++ [one]) := by
  rw [← ones_snoc] at hr
  exact ⟨blk_put hb 0 v1 rfl, hr.set hb (by decide) 0 v1, hB⟩
theorem bit_val (u k : Nat) (hu : u < 18446744073709551616) : IntKind.u8.wrap (Go.bits .and .u64 ((u : Int) / 2 ^ k) 1) = b01 (u.testBit k) := by
  have h := bit_of u k hu
  have h2 := and_mask_u64 1 (by decide) ((u : Int) / 2 ^ k) 1 (Int.ediv_nonneg (by omega) (Int.pow_nonneg (by omega))) (by
    have h1 : (u : Int) / 2 ^ k ≤ (u : Int) := Int.ediv_le_self _ (by omega)
    omega) (by decide)
  rw [h2] at h ⊢
  have h3 : (u : Int) / 2 ^ k % 2 ^ 1 = 0 ∨ (u : Int) / 2 ^ k % 2 ^ 1 = 1 := by
    have : (2 : Int) ^ 1 = 2 := by decide
    rw [this]
    generalize (u : Int) / 2 ^ k = z
    omega
  unfold b01
  rcases h3 with h3 | h3
  · rw [h3] at h ⊢
    rw [← h]
    decide
  · rw [h3] at h ⊢
    rw [← h]
    decide
set_option maxHeartbeats 4000000 in
set_option maxRecDepth 100000 in
theorem XPut_yes (u K : Nat) (hu : u < 18446744073709551616) (hK : K ≤ 64) (huk : u < 2 ^ K) (bs : List Bool) (B g : Nat) (v : Value) (w : World) (h : XW w B g v bs) (hl : bs.length + 64 < 140737488355328) :
    Calls Try.prog 12 #[.pointer (some ⟨g, 0, none⟩), .int .u64 u, .int .i64 K] w fun e w' => e = .returned (.int .i64 0) ∧ ∃ v', XW w' B g v' (bs ++ nbits u K) ∧ Moved B g w v w' v' := by
  have H := Aside0.mk h
  have k0 : (0 : Int) ≤ (K : Int) := by omega
  have k1 : ¬ ((K : Int) < 0) := by omega
  have k2 : ¬ ((K : Int) > 64) := by omega
  have hz : K < 64 → (u : Int) / 2 ^ K = 0 := by
    intro _
    have : (u : Int) < 2 ^ K := by exact_mod_cast huk
    exact Int.ediv_eq_zero_of_lt (by omega) this
  have ew : IntKind.u64.wrap (K : Int) = (K : Int) := by rw [u64_wrap]; omega
  clear h
  rcases Nat.lt_or_ge K 64 with h64 | h64
  · have k3 : (K : Int) < 64 := by omega
    have hz' := hz h64
    clear hz huk
    go_enter Try.func12, Try.ntmps12
    go_wp2
    go_loopg [7] K (fun k i wr => ∃ (v' : Value), k ≤ K ∧ i = .int .i64 ((k : Int) - 1) ∧ Aside0 (XW wr B g v' (bs ++ (nbits u K).take (K - k))) ∧ Aside0 (Moved B g w v wr v'))
    case atStart => exact ⟨v, by omega, rfl, by simpa using H, ⟨Moved.refl B g w v⟩⟩
    case round =>
      obtain ⟨v', hk, rfl, HE, HM⟩ := hrel
      cases gk with
      | zero =>
        go_wp2
        go_ret
        refine ⟨rfl, v', ?_, HM.out⟩
        have := HE.out
        rw [Nat.sub_zero, List.take_of_length_le (by rw [nbits_length]; omega)] at this
        exact this
      | succ k =>
        have hb := bit_val u k hu
        have ek : (((k + 1 : Nat) : Int) - 1) = (k : Int) := by omega
        rw [ek]
        have HLN : Aside0 ((ones (bs ++ (nbits u K).take (K - (k + 1)))).length < 140737488355328) := ⟨by
          rw [ones_length, List.length_append, List.length_take, nbits_length]; omega⟩
        have hnext : (nbits u K).take (K - k) = (nbits u K).take (K - (k + 1)) ++ [u.testBit k] := by
          have := nbits_take u K (K - (k + 1)) (by omega)
          rw [show K - (k + 1) + 1 = K - k by omega, show K - 1 - (K - (k + 1)) = k by omega] at this
          exact this
        obtain ⟨one, h1⟩ : ∃ one, u.testBit k = one := ⟨_, rfl⟩
        rw [h1] at hb hnext
        have HX := Aside0.mk hnext
        have kw : IntKind.u64.wrap (k : Int) = (k : Int) := by rw [u64_wrap]; omega
        have k64 : (k : Int) < 64 := by omega
        have kn0 : (0 : Int) ≤ (k : Int) := by omega
        have c0 : wr.cell? ⟨g, 0, none⟩ = some v' := blk_cell HE.out.1 0
        clear hnext h1 ek
        go_wp2_with (at_builtin; (with_reducible refine app_list (w0 := w) (B := B) (v := v') (xs := ones (bs ++ (nbits u K).take (K - (k + 1)))) (.tmp 35) (.tmp 42) (b01 one) ?_ ?_ ?_ ?_ ?_ ?_ ?_ ?_ ?_); rfl; rfl; rfl; rfl; exact HE.out.2.1; exact HM.out.below; exact Nat.le_trans HE.out.2.2 (Nat.le_of_lt HE.out.lt); exact HLN.out; intro v1 w1 HO1 HB1 HG1 HV1; have hb1 := XW.grown HE.out HG1.out; obtain ⟨A1, k1, e1⟩ := BytesAt.slice HO1.out; subst e1; have c11 : w1.cell? ⟨g, 0, none⟩ = some v' := blk_cell hb1 0; have f11 := blk_frozen hb1 0)
        go_roundg k
        case measure => omega
        case rel => exact ⟨_, by omega, rfl, ⟨by rw [HX.out, ← List.append_assoc]; exact XW.put hb1 HO1.out HE.out.2.2⟩, ⟨(Moved.app HM.out HG1.out HB1.out HV1.out).set HE.out.2.2 0 _⟩⟩
  · have k3 : ¬ (K : Int) < 64 := by omega
    clear hz huk
    go_enter Try.func12, Try.ntmps12
    go_wp2
    go_loopg [7] K (fun k i wr => ∃ (v' : Value), k ≤ K ∧ i = .int .i64 ((k : Int) - 1) ∧ Aside0 (XW wr B g v' (bs ++ (nbits u K).take (K - k))) ∧ Aside0 (Moved B g w v wr v'))
    case atStart => exact ⟨v, by omega, rfl, by simpa using H, ⟨Moved.refl B g w v⟩⟩
    case round =>
      obtain ⟨v', hk, rfl, HE, HM⟩ := hrel
      cases gk with
      | zero =>
        go_wp2
        go_ret
        refine ⟨rfl, v', ?_, HM.out⟩
        have := HE.out
        rw [Nat.sub_zero, List.take_of_length_le (by rw [nbits_length]; omega)] at this
        exact this
      | succ k =>
        have hb := bit_val u k hu
        have ek : (((k + 1 : Nat) : Int) - 1) = (k : Int) := by omega
        rw [ek]
        have HLN : Aside0 ((ones (bs ++ (nbits u K).take (K - (k + 1)))).length < 140737488355328) := ⟨by
          rw [ones_length, List.length_append, List.length_take, nbits_length]; omega⟩
        have hnext : (nbits u K).take (K - k) = (nbits u K).take (K - (k + 1)) ++ [u.testBit k] := by
          have := nbits_take u K (K - (k + 1)) (by omega)
          rw [show K - (k + 1) + 1 = K - k by omega, show K - 1 - (K - (k + 1)) = k by omega] at this
          exact this
        obtain ⟨one, h1⟩ : ∃ one, u.testBit k = one := ⟨_, rfl⟩
        rw [h1] at hb hnext
        have HX := Aside0.mk hnext
        have kw : IntKind.u64.wrap (k : Int) = (k : Int) := by rw [u64_wrap]; omega
        have k64 : (k : Int) < 64 := by omega
        have kn0 : (0 : Int) ≤ (k : Int) := by omega
        have c0 : wr.cell? ⟨g, 0, none⟩ = some v' := blk_cell HE.out.1 0
        clear hnext h1 ek
        go_wp2_with (at_builtin; (with_reducible refine app_list (w0 := w) (B := B) (v := v') (xs := ones (bs ++ (nbits u K).take (K - (k + 1)))) (.tmp 35) (.tmp 42) (b01 one) ?_ ?_ ?_ ?_ ?_ ?_ ?_ ?_ ?_); rfl; rfl; rfl; rfl; exact HE.out.2.1; exact HM.out.below; exact Nat.le_trans HE.out.2.2 (Nat.le_of_lt HE.out.lt); exact HLN.out; intro v1 w1 HO1 HB1 HG1 HV1; have hb1 := XW.grown HE.out HG1.out; obtain ⟨A1, k1, e1⟩ := BytesAt.slice HO1.out; subst e1; have c11 : w1.cell? ⟨g, 0, none⟩ = some v' := blk_cell hb1 0; have f11 := blk_frozen hb1 0)
        go_roundg k
        case measure => omega
        case rel => exact ⟨_, by omega, rfl, ⟨by rw [HX.out, ← List.append_assoc]; exact XW.put hb1 HO1.out HE.out.2.2⟩, ⟨(Moved.app HM.out HG1.out HB1.out HV1.out).set HE.out.2.2 0 _⟩⟩
set_option maxHeartbeats 4000000 in
set_option maxRecDepth 100000 in
theorem XUnary_yes (N : Nat) (hN : N ≤ 16777216) (bs : List Bool) (B g : Nat) (v : Value) (w : World) (h : XW w B g v bs) (hl : bs.length + 16777300 < 140737488355328) :
    Calls Try.prog 52 #[.pointer (some ⟨g, 0, none⟩), .int .i64 N] w fun e w' => e = .returned (.int .i64 0) ∧ ∃ v', XW w' B g v' (noughts bs N ++ [true]) ∧ Moved B g w v w' v' := by
  have H := Aside0.mk h
  have n0 : ¬ ((N : Int) < 0) := by omega
  have n1 : ¬ ((N : Int) > 16777216) := by omega
  clear h
  go_enter Try.func52, Try.ntmps52
  go_wp2
  go_loopw [5] (fun iv wr => ∃ (i : Nat) (v' : Value), i ≤ N ∧ iv = .int .i64 i ∧ Aside0 (XW wr B g v' (noughts bs i)) ∧ Aside0 (Moved B g w v wr v')) (fun iv _ => N - (intOf iv).toNat)
  case atStart => exact ⟨0, v, by omega, rfl, by simpa [noughts] using H, ⟨Moved.refl B g w v⟩⟩
  case round =>
    obtain ⟨i, v', hi, rfl, HE, HM⟩ := hrel
    have HLN : Aside0 ((ones (noughts bs i)).length < 140737488355328) := ⟨by rw [ones_length, noughts_length]; omega⟩
    have c0 : wr.cell? ⟨g, 0, none⟩ = some v' := blk_cell HE.out.1 0
    by_cases hlt : i < N
    · have i1 : (i : Int) < (N : Int) := by omega
      go_wp2_with (at_builtin; (with_reducible refine app_list (w0 := w) (B := B) (v := v') (xs := ones (noughts bs i)) (.tmp 21) (.tmp 22) 0 ?_ ?_ ?_ ?_ ?_ ?_ ?_ ?_ ?_); rfl; rfl; rfl; rfl; exact HE.out.2.1; exact HM.out.below; exact Nat.le_trans HE.out.2.2 (Nat.le_of_lt HE.out.lt); exact HLN.out; intro v1 w1 HO1 HB1 HG1 HV1; have hb1 := XW.grown HE.out HG1.out; obtain ⟨A1, k1, e1⟩ := BytesAt.slice HO1.out; subst e1; have c11 : w1.cell? ⟨g, 0, none⟩ = some v' := blk_cell hb1 0; have f11 := blk_frozen hb1 0)
      go_roundw
      case rel => exact ⟨i + 1, _, by omega, by go_num, ⟨by rw [← noughts_one]; exact XW.put (one := false) hb1 HO1.out HE.out.2.2⟩, ⟨(Moved.app HM.out HG1.out HB1.out HV1.out).set HE.out.2.2 0 _⟩⟩
      case measure => simp [intOf]; omega
    · obtain rfl : i = N := by omega
      go_wp2_with (at_builtin; (with_reducible refine app_list (w0 := w) (B := B) (v := v') (xs := ones (noughts bs i)) (.tmp 30) (.tmp 31) 1 ?_ ?_ ?_ ?_ ?_ ?_ ?_ ?_ ?_); rfl; rfl; rfl; rfl; exact HE.out.2.1; exact HM.out.below; exact Nat.le_trans HE.out.2.2 (Nat.le_of_lt HE.out.lt); exact HLN.out; intro v1 w1 HO1 HB1 HG1 HV1; have hb1 := XW.grown HE.out HG1.out; obtain ⟨A1, k1, e1⟩ := BytesAt.slice HO1.out; subst e1; have c11 : w1.cell? ⟨g, 0, none⟩ = some v' := blk_cell hb1 0; have f11 := blk_frozen hb1 0)
      go_ret
      exact ⟨rfl, _, XW.put (one := true) hb1 HO1.out HE.out.2.2, (Moved.app HM.out HG1.out HB1.out HV1.out).set HE.out.2.2 0 _⟩
end Go.Proofs.Ytfhekkoibmlmpaa.Hand
namespace Go.Proofs.Ytfhekkoibmlmpaa.Hand
open Go.RowKit Go.Proofs.Ytfhekkoibmlmpaa.Q Go.Proofs.YtfhekkoibmlmpaaW.PrintWords Go.Proofs.YtfhekkoibmlmpaaW.PrintLast Go.Proofs.YtfhekkoibmlmpaaW.PrintMore
set_option linter.unusedVariables false
set_option linter.unusedSimpArgs false

theorem nbits_mod (u K : Nat) : nbits (u % 2 ^ K) K = nbits u K := by
  unfold nbits
  apply List.map_congr_left
  intro i hi
  rw [List.mem_range] at hi
  rw [Nat.testBit_mod_two_pow]
  simp
  omega
theorem xfits_any (n k : Int) (h0 : -9223372036854775808 ≤ n) (h1 : n ≤ 9223372036854775807) (w : World) : Calls Try.prog 53 #[.int .i64 n, .int .i64 k] w fun e w' => e = .returned (.bool (decide (fitsP n k))) ∧ Drawn0 w w' := by
  refine lacquerref01_Fits.calls (4 + 1) n k _ w ?_
  unfold lacquerref01_Fits.f
  by_cases a : k < 1
  · rw [if_pos a, decide_eq_false (show ¬ fitsP n k from fun q => by have := q.1; omega)]
    simp only [lacquerref01_Fits.j0]
    rw [if_pos trivial]
  · rw [if_neg a]
    simp only [lacquerref01_Fits.j0]
    by_cases b : k > 64
    · rw [if_pos (decide_eq_true b), decide_eq_false (show ¬ fitsP n k from fun q => by have := q.2.1; omega)]
    · rw [if_neg (by simpa using b)]
      by_cases c : k = 64
      · subst c
        rw [if_pos rfl, decide_eq_true (show fitsP n 64 from ⟨by omega, by omega, by simpa using h0, by
          have : (2 : Int) ^ ((64 : Int) - 1).toNat = 9223372036854775808 := by decide
          rw [this]; omega⟩)]
      · obtain ⟨K, rfl⟩ : ∃ K : Nat, k = (K : Int) + 1 := ⟨(k - 1).toNat, by omega⟩
        have hK : K ≤ 62 := by omega
        have e1 : (K : Int) + 1 - 1 = (K : Int) := by omega
        have e2 : ((K : Int) + 1 - 1).toNat = K := by omega
        have ew : IntKind.u64.wrap (K : Int) = (K : Int) := by rw [u64_wrap]; omega
        have hp : (2 : Int) ^ K ≤ 4611686018427387904 := by
          have h := Nat.pow_le_pow_right (n := 2) (by decide) hK
          have h2 : (2 : Nat) ^ 62 = 4611686018427387904 := by decide
          have h3 : ((2 ^ K : Nat) : Int) ≤ 4611686018427387904 := by omega
          simpa using h3
        have hp0 : (0 : Int) < 2 ^ K := Int.pow_pos (by decide)
        have es : shl .i64 1 (K : Int) = 2 ^ K := by
          unfold shl
          rw [Nat.min_eq_left (by simp [IntKind.bits]; omega), Int.toNat_natCast, Int.one_mul, IntKind.wrap_i64]
          omega
        rw [if_neg c, e1, wrap_id (K : Int) (by omega) (by omega), ew, if_pos (by omega), es]
        generalize hP : (2 : Int) ^ K = P at hp hp0
        have f1 : fitsP n ((K : Int) + 1) ↔ (-P ≤ n ∧ n < P) := by
          unfold fitsP
          rw [e2, hP]
          exact ⟨fun q => q.2.2, fun q => ⟨by omega, by omega, q.1, q.2⟩⟩
        rw [wrap_id (-P) (by omega) (by omega), wrap_id (P - 1) (by omega) (by omega)]
        by_cases d : n ≥ -P
        · rw [if_pos d]
          congr 1
          by_cases e : n ≤ P - 1
          · rw [decide_eq_true e, decide_eq_true (f1.2 ⟨d, by omega⟩)]
          · rw [decide_eq_false e, decide_eq_false (fun q => by have := (f1.1 q).2; omega)]
        · rw [if_neg d, decide_eq_false (fun q => d (f1.1 q).1)]
theorem mask_u64 (u K : Nat) (hu : u < 18446744073709551616) (hK : K < 64) : Go.bits .and .u64 (u : Int) (IntKind.u64.wrap (IntKind.u64.wrap (2 ^ K) - 1)) = ((u % 2 ^ K : Nat) : Int) := by
  have hp0 : (0 : Int) < 2 ^ K := Int.pow_pos (by decide)
  have hp : (2 : Int) ^ K ≤ 9223372036854775808 := by
    have h := Nat.pow_le_pow_right (n := 2) (by decide) (show K ≤ 63 by omega)
    have h2 : (2 : Nat) ^ 63 = 9223372036854775808 := by decide
    have h3 : ((2 ^ K : Nat) : Int) ≤ 9223372036854775808 := by omega
    simpa using h3
  rw [and_mask_u64 K (by omega) (u : Int) _ (by omega) (by omega) (by
    generalize (2 : Int) ^ K = P at hp0 hp
    rw [u64_wrap, u64_wrap]
    omega)]
  simp
set_option maxHeartbeats 4000000 in
set_option maxRecDepth 100000 in
theorem XSigned_yes (n : Int) (K : Nat) (h0 : -9223372036854775808 ≤ n) (h1 : n ≤ 9223372036854775807) (hf : fitsP n K) (bs : List Bool) (B g : Nat) (v : Value) (w : World) (h : XW w B g v bs) (hl : bs.length + 64 < 140737488355328) :
    Calls Try.prog 37 #[.pointer (some ⟨g, 0, none⟩), .int .i64 n, .int .i64 K] w fun e w' => e = .returned (.int .i64 0) ∧ ∃ v', XW w' B g v' (bs ++ nbits (wordN n) K) ∧ Moved B g w v w' v' := by
  have hc := xfits_any n K h0 h1
  rw [decide_eq_true hf] at hc
  have HC := Aside0.mk hc
  have hw := wordN_eq n
  have hwl := wordN_lt n
  have H := Aside0.mk h
  have hK : K ≤ 64 := by have := hf.2.1; omega
  have k0 : (0 : Int) ≤ (K : Int) := by omega
  have ew : IntKind.u64.wrap (K : Int) = (K : Int) := by rw [u64_wrap]; omega
  clear hc hf h
  generalize wordN n = u at hw hwl ⊢
  rcases Nat.lt_or_ge K 64 with h64 | h64
  · have k3 : (K : Int) < 64 := by omega
    go_enter Try.func37, Try.ntmps37
    go_wp2_with fail
    refine (HC.out _).mono ?_
    rintro e w1 ⟨rfl, ⟨m, rfl⟩⟩
    have H1 := Aside0.mk (H.out.below (pw_below_drewN (Below.refl _ _) m))
    have HM1 := Aside0.mk ((Moved.refl B g w v).drewN m)
    generalize w.drewN m = w1 at H1 HM1 ⊢
    have hmk := mask_u64 u K hwl h64
    have HMK := Aside0.mk hmk
    clear hmk
    go_wp2_with fail
    rw [HMK.out]
    have hml : u % 2 ^ K < 18446744073709551616 := Nat.lt_of_le_of_lt (Nat.mod_le _ _) hwl
    have HNB : Aside0 (nbits (u % 2 ^ K) K = nbits u K) := ⟨nbits_mod u K⟩
    have HP := Aside0.mk (XPut_yes (u % 2 ^ K) K hml hK (Nat.mod_lt _ (Nat.pow_pos (by decide))) bs B g v w1 H1.out hl)
    clear hml HMK
    generalize u % 2 ^ K = m at HNB HP ⊢
    refine HP.out.mono ?_
    rintro e w2 ⟨rfl, v2, hE, hM⟩
    rw [HNB.out] at hE
    have HE := Aside0.mk hE
    have HM := Aside0.mk (HM1.out.trans hM)
    clear hE hM
    go_wp2
    go_ret
    exact ⟨rfl, v2, HE.out, HM.out⟩
  · have k3 : ¬ (K : Int) < 64 := by omega
    have hu : u < 2 ^ K := by
      obtain rfl : K = 64 := by omega
      exact hwl
    have HU := Aside0.mk hu
    clear hu
    go_enter Try.func37, Try.ntmps37
    go_wp2_with fail
    refine (HC.out _).mono ?_
    rintro e w1 ⟨rfl, ⟨m, rfl⟩⟩
    have H1 := Aside0.mk (H.out.below (pw_below_drewN (Below.refl _ _) m))
    have HM1 := Aside0.mk ((Moved.refl B g w v).drewN m)
    generalize w.drewN m = w1 at H1 HM1 ⊢
    go_wp2_with fail
    refine (XPut_yes u K hwl hK HU.out bs B g v w1 H1.out hl).mono ?_
    rintro e w2 ⟨rfl, v2, hE, hM⟩
    have HE := Aside0.mk hE
    have HM := Aside0.mk (HM1.out.trans hM)
    clear hE hM
    go_wp2
    go_ret
    exact ⟨rfl, v2, HE.out, HM.out⟩
set_option maxHeartbeats 4000000 in
theorem XSigned_no (n k : Int) (h0 : -9223372036854775808 ≤ n) (h1 : n ≤ 9223372036854775807) (hf : ¬ fitsP n k) (g : Nat) (w : World) :
    Calls Try.prog 37 #[.pointer (some ⟨g, 0, none⟩), .int .i64 n, .int .i64 k] w fun e w' => e = .returned (.int .i64 11) ∧ Drawn0 w w' := by
  have hc := xfits_any n k h0 h1
  rw [decide_eq_false hf] at hc
  have HC := Aside0.mk hc
  clear hc hf
  go_enter Try.func37, Try.ntmps37
  go_wp2_with fail
  refine (HC.out _).mono ?_
  rintro e w1 ⟨rfl, hd⟩
  have HD := Aside0.mk hd
  clear hd
  go_wp2
  go_ret
  exact ⟨rfl, HD.out⟩
set_option maxHeartbeats 4000000 in
set_option maxRecDepth 100000 in
theorem XRice_no (n k : Int) (h0 : -9223372036854775808 ≤ n) (h1 : n ≤ 9223372036854775807) (h : ¬ riceP n k) (g : Nat) (w : World) :
    Calls Try.prog 36 #[.pointer (some ⟨g, 0, none⟩), .int .i64 n, .int .i64 k] w fun e w' => e = .returned (.int .i64 11) ∧ Drawn0 w w' := by
  by_cases k0 : k < 0
  · clear h
    go_enter Try.func36, Try.ntmps36
    go_wp2
    go_ret
    exact ⟨rfl, Drawn0.refl _⟩
  · by_cases k1 : 30 < k
    · clear h
      go_enter Try.func36, Try.ntmps36
      go_wp2
      go_ret
      exact ⟨rfl, Drawn0.refl _⟩
    · obtain ⟨K, rfl⟩ : ∃ K : Nat, k = (K : Int) := ⟨k.toNat, by omega⟩
      have hq : 16777216 < foldN n / 2 ^ K := by
        rcases Nat.lt_or_ge 16777216 (foldN n / 2 ^ K) with q | q
        · exact q
        · exact absurd ⟨by omega, by omega, by simpa using q⟩ h
      have hd : (foldN n : Int) / 2 ^ K = ((foldN n / 2 ^ K : Nat) : Int) := by simp
      have HF := Aside0.mk (Fold_any n h0 h1)
      have k2 : (0 : Int) ≤ (K : Int) := by omega
      have k3 : (K : Int) ≤ 30 := by omega
      have k4 : (K : Int) < 64 := by omega
      have ew : IntKind.u64.wrap (K : Int) = (K : Int) := by rw [u64_wrap]; omega
      obtain ⟨u, hu⟩ : ∃ u, foldN n = u := ⟨_, rfl⟩
      rw [hu] at hq hd HF
      obtain ⟨q, hqq⟩ : ∃ q, u / 2 ^ K = q := ⟨_, rfl⟩
      rw [hqq] at hq hd
      have hq' : (16777216 : Int) < (q : Int) := by omega
      clear h hu hqq k0 k1
      go_enter Try.func36, Try.ntmps36
      go_wp2_with fail
      refine (HF.out _).mono ?_
      rintro e w1 ⟨rfl, hdr⟩
      have HD := Aside0.mk hdr
      clear hdr
      go_wp2
      go_ret
      exact ⟨rfl, HD.out⟩
set_option maxHeartbeats 4000000 in
set_option maxRecDepth 100000 in
theorem XRice_yes (n : Int) (K : Nat) (h0 : -9223372036854775808 ≤ n) (h1 : n ≤ 9223372036854775807) (h : riceP n K) (bs : List Bool) (B g : Nat) (v : Value) (w : World) (hE : XW w B g v bs) (hl : bs.length + 16777400 < 140737488355328) :
    Calls Try.prog 36 #[.pointer (some ⟨g, 0, none⟩), .int .i64 n, .int .i64 K] w fun e w' => e = .returned (.int .i64 0) ∧ ∃ v', XW w' B g v' (bs ++ riceB n K) ∧ Moved B g w v w' v' := by
  have hq : foldN n / 2 ^ K ≤ 16777216 := by simpa using h.2.2
  have hd : (foldN n : Int) / 2 ^ K = ((foldN n / 2 ^ K : Nat) : Int) := by simp
  have HF := Aside0.mk (Fold_any n h0 h1)
  have hlt := foldN_lt n h0 h1
  have k2 : (0 : Int) ≤ (K : Int) := by omega
  have k3 : (K : Int) ≤ 30 := h.2.1
  have k4 : (K : Int) < 64 := by omega
  have ew : IntKind.u64.wrap (K : Int) = (K : Int) := by rw [u64_wrap]; omega
  have HE := Aside0.mk hE
  have HRB : Aside0 (riceB n K = List.replicate (foldN n / 2 ^ K) false ++ true :: nbits (foldN n) K) := ⟨rfl⟩
  obtain ⟨u, hu⟩ : ∃ u, foldN n = u := ⟨_, rfl⟩
  rw [hu] at hq hd HF hlt HRB
  have hmk := mask_u64 u K hlt (by omega)
  have HMK := Aside0.mk hmk
  have hml : u % 2 ^ K < 18446744073709551616 := Nat.lt_of_le_of_lt (Nat.mod_le _ _) hlt
  have hml2 : u % 2 ^ K < 2 ^ K := Nat.mod_lt _ (Nat.pow_pos (by decide))
  have HNB : Aside0 (nbits (u % 2 ^ K) K = nbits u K) := ⟨nbits_mod u K⟩
  obtain ⟨q, hqq⟩ : ∃ q, u / 2 ^ K = q := ⟨_, rfl⟩
  rw [hqq] at hq hd HRB
  have hq' : ¬ (q : Int) > 16777216 := by omega
  have hqw : IntKind.i64.wrap (q : Int) = (q : Int) := by rw [IntKind.wrap_i64]; omega
  have HML := Aside0.mk (And.intro hml hml2)
  clear h hu hqq hE hmk hml hml2
  go_enter Try.func36, Try.ntmps36
  go_wp2_with fail
  refine (HF.out _).mono ?_
  rintro e w1 ⟨rfl, ⟨m1, rfl⟩⟩
  go_wp2_with fail
  refine (HF.out _).mono ?_
  rintro e w1 ⟨rfl, ⟨m2, rfl⟩⟩
  have HE1 : Aside0 (XW ((w.drewN m1).drewN m2) B g v bs) := ⟨(HE.out.below (pw_below_drewN (Below.refl _ _) m1)).below (pw_below_drewN (Below.refl _ _) m2)⟩
  have HM1 : Aside0 (Moved B g w v ((w.drewN m1).drewN m2) v) := ⟨((Moved.refl B g w v).drewN m1).drewN m2⟩
  generalize (w.drewN m1).drewN m2 = wy at HE1 HM1 ⊢
  go_wp2_with fail
  refine (XUnary_yes q (by omega) bs B g v wy HE1.out (by omega)).mono ?_
  rintro e w3 ⟨rfl, v3, hE, hM⟩
  have HE3 := Aside0.mk hE
  have HM3 := Aside0.mk (HM1.out.trans hM)
  clear hE hM
  go_wp2_with fail
  rw [HMK.out]
  obtain ⟨hml, hml2⟩ := HML.out
  have HP := Aside0.mk (XPut_yes (u % 2 ^ K) K hml (by omega) hml2 _ B g v3 w3 HE3.out (by rw [List.length_append, noughts_length]; simp; omega))
  clear hml hml2 HMK HML
  generalize u % 2 ^ K = m at HNB HP ⊢
  refine HP.out.mono ?_
  rintro e w4 ⟨rfl, v4, hE, hM⟩
  rw [HNB.out] at hE
  have HE4 := Aside0.mk hE
  have HM4 := Aside0.mk (HM3.out.trans hM)
  clear hE hM
  go_wp2
  go_ret
  refine ⟨rfl, v4, ?_, HM4.out⟩
  rw [HRB.out]
  have := HE4.out
  unfold noughts at this
  simpa using this
end Go.Proofs.Ytfhekkoibmlmpaa.Hand
namespace Go.Proofs.Ytfhekkoibmlmpaa.Hand
open Go.RowKit Go.Proofs.Ytfhekkoibmlmpaa.Q Go.Proofs.YtfhekkoibmlmpaaW.PrintWords Go.Proofs.YtfhekkoibmlmpaaW.PrintLast Go.Proofs.YtfhekkoibmlmpaaW.PrintMore
set_option linter.unusedVariables false
set_option linter.unusedSimpArgs false

def zrow8 (n : Nat) : Array Value := ((List.replicate n 0).map (Value.int .u8)).toArray
theorem made_zrow8 (n : Nat) : madeCells (Value.int .u8 0).cells (n * 1) = zrow8 n := by
  apply Array.ext'
  simp [madeCells, zrow8, Value.cells, Nat.mod_one]
  apply List.ext_getElem
  · simp
  · intro i h1 h2
    simp
theorem make8 (n : Nat) (hn : n ≤ 1073741824) (w : World) : (Instr.makeSlice 31 (.int .i64 n) (.int .i64 n)).run Try.prog w = .ok (.slice (some ⟨w.heap.size, 0, none⟩) n n) (w.alloc (.cells (zrow8 n) 5)) := by
  obtain ⟨i0, hi, hz0, hz1, hz2⟩ := info_parts infoB
  have := run_make w 31 5 i0 _ Try.underlying31 hi hz0 .i64 .i64 n n (by omega) (by omega) (by rw [hz2]; omega) (by omega)
  rw [Int.toNat_natCast, hz1, made_zrow8] at this
  exact this
theorem zeros8 (w : World) (n : Nat) (hn : n ≤ 1073741824) : BytesAt (w.alloc (.cells (zrow8 n) 5)) w.heap.size (.slice (some ⟨w.heap.size, 0, none⟩) n n) (List.replicate n 0) := by
  refine BytesAt.of (ok := fun _ => True) (Kd.R_of_own ?_ (fun _ _ => trivial))
  have := World.ownsRow_lit (base := w.heap.size) (e := 5) (size := 1) w (zrow8 n) n (Nat.le_refl _) (by unfold maxLen; omega) (by simp [zrow8])
  simpa [encs, zrow8] using this
theorem bit_up (b : Bool) (r : Nat) (hr : r < 8) : IntKind.u8.wrap (b01 b * 2 ^ (7 - r)) = (bitV b r : Nat) := by
  revert b r
  decide
set_option maxHeartbeats 8000000 in
set_option maxRecDepth 100000 in
theorem XBytes_any (bs : List Bool) (B g : Nat) (v : Value) (w : World) (h : XW w B g v bs) (hl : bs.length ≤ 4294967296) :
    Calls Try.prog 17 #[.pointer (some ⟨g, 0, none⟩)] w fun e w' => e = .returned (.string (strOfNums (pack bs))) ∧ Below w.heap.size w w' := by
  have H := Aside0.mk h
  have c0 : w.cell? ⟨g, 0, none⟩ = some v := blk_cell h.1 0
  obtain ⟨A, c, rfl⟩ := Kd.R_slice h.2.1
  rw [ones_length] at c0 H
  obtain ⟨n, hn⟩ : ∃ n, bs.length = n := ⟨_, rfl⟩
  have HN := Aside0.mk hn
  rw [hn] at c0 H hl
  obtain ⟨m, hm⟩ : ∃ m, (n + 7) / 8 = m := ⟨_, rfl⟩
  have hm1 : m ≤ 1073741824 := by omega
  have e1 : IntKind.i64.wrap ((n : Int) + 7) = (n : Int) + 7 := by rw [IntKind.wrap_i64]; omega
  have e2 : ((n : Int) + 7).tdiv 8 = (m : Int) := by rw [Int.tdiv_eq_ediv_of_nonneg (by omega)]; omega
  have e3 : IntKind.i64.wrap (m : Int) = (m : Int) := by rw [IntKind.wrap_i64]; omega
  have hmk := make8 m hm1
  have HZ := Aside0.mk (zeros8 w m hm1)
  have HB0 := Aside0.mk ((Below.refl w.heap.size w).alloc (Nat.le_refl _) (.cells (zrow8 m) 5))
  have hpk : padP bs m = pack bs := by rw [← padP_pack, hn, hm]
  have HPK := Aside0.mk hpk
  have HM := Aside0.mk hm
  clear h hn hm hm1 hpk
  go_enter Try.func17, Try.ntmps17
  go_wp2
  clear c0
  generalize w.alloc (.cells (zrow8 m) 5) = w1 at HZ HB0 ⊢
  obtain ⟨b, hb⟩ : ∃ b, w.heap.size = b := ⟨_, rfl⟩
  have HBS := Aside0.mk hb
  rw [hb] at HZ HB0 ⊢
  clear hb
  go_loopw [4] (fun iv wr => ∃ i : Nat, i ≤ n ∧ iv = .int .i64 i ∧ Aside0 (BytesAt wr b (.slice (some ⟨b, 0, none⟩) m m) (padP (bs.take i) m)) ∧ Aside0 (Below b w wr)) (fun iv _ => n - (intOf iv).toNat)
  case atStart => exact ⟨0, Nat.zero_le _, rfl, ⟨by rw [List.take_zero, padP_nil]; exact HZ.out⟩, HB0⟩
  case round =>
    clear HZ HB0
    obtain ⟨i, hi, rfl, HR, HB⟩ := hrel
    have HX : Aside0 (XW wr B g (.slice A n c) bs) := ⟨H.out.below (by rw [HBS.out]; exact HB.out)⟩
    have c0 : wr.cell? ⟨g, 0, none⟩ = some (.slice A n c) := blk_cell HX.out.1 0
    by_cases hlt : i < n
    · have i0 : (0 : Int) ≤ (i : Int) := by omega
      have i1 : (i : Int) < (n : Int) := by omega
      obtain ⟨b2, c2, e4, cb, _, _, _⟩ := HX.out.2.1.place i (by rw [ones_length, HN.out]; exact hlt)
      rw [ones_length, HN.out] at e4
      injection e4 with e4 _ e5
      subst e4 e5
      have hbi : bs[i]? = some (bs[i]'(by rw [HN.out]; exact hlt)) := List.getElem?_eq_getElem _
      have ht : bs.take (i + 1) = bs.take i ++ [bs[i]'(by rw [HN.out]; exact hlt)] := List.take_succ_eq_append_getElem _
      generalize bs[i]'_ = one at hbi ht
      have ho : (ones bs).getD i 0 = b01 one := by
        unfold ones
        rw [List.getD_eq_getElem?_getD, List.getElem?_map, hbi]
        rfl
      rw [ho] at cb
      have htl : (bs.take i).length = i := by rw [List.length_take, HN.out]; omega
      have hps := padP_snoc (bs.take i) one m (by rw [htl]; have := HM.out; omega)
      rw [← ht, htl] at hps
      obtain ⟨hp1, hp2, hp3⟩ := hps
      obtain ⟨q, hq⟩ : ∃ q, i / 8 = q := ⟨_, rfl⟩
      obtain ⟨r, hr⟩ : ∃ r, i % 8 = r := ⟨_, rfl⟩
      have hr8 : r < 8 := by omega
      have hqm : q < m := by have := HM.out; omega
      rw [hq, hr] at hp1 hp3
      rw [hq] at hp2
      obtain ⟨b3, c3, e6, cq, fq, hBq, _⟩ := HR.out.place q (by rw [padP_length]; exact hqm)
      rw [padP_length] at e6
      injection e6 with e6 _ e7
      injection e6 with e6
      injection e6 with e6
      subst e6 e7
      have hbu := bit_up one r hr8
      generalize (padP (bs.take i) m).getD q 0 = x at hp1 hp2 hp3 cq
      generalize bitV one r = y at hbu hp1 hp3
      have HP1 := Aside0.mk hp1
      have ex : IntKind.u8.wrap (x + (y : Int)) = x + (y : Int) := by rw [u8_wrap]; omega
      have q0 : (0 : Int) ≤ (q : Int) := by omega
      have q1 : (q : Int) < (m : Int) := by omega
      have d1 : (i : Int).tdiv 8 = (q : Int) := by rw [Int.tdiv_eq_ediv_of_nonneg (by omega)]; omega
      have d2 : (i : Int).tmod 8 = (r : Int) := by rw [Int.tmod_eq_emod_of_nonneg (by omega)]; omega
      have d3 : IntKind.i64.wrap (q : Int) = (q : Int) := by rw [IntKind.wrap_i64]; omega
      have d4 : IntKind.i64.wrap (7 - (r : Int)) = 7 - (r : Int) := by rw [IntKind.wrap_i64]; omega
      have d5 : IntKind.u64.wrap (7 - (r : Int)) = ((7 - r : Nat) : Int) := by rw [u64_wrap]; omega
      have r0 : (0 : Int) ≤ ((7 - r : Nat) : Int) := by omega
      have r8 : ((7 - r : Nat) : Int) < 8 := by omega
      generalize 7 - r = sh at hbu d5 r0 r8
      generalize b01 one = z at cb hbu
      clear hbi ht ho htl hp1 hp2 hp3 hq hr
      go_wp2
      go_still_tail 19, (by kernel_rfl)
      repeat still_step
      have HR2 : Aside0 (BytesAt wr.drew b (.slice (some ⟨b, 0, none⟩) m m) (padP (bs.take i) m)) := ⟨HR.out.below (below_drew (Below.refl _ _))⟩
      have HB2 : Aside0 (Below b w wr.drew) := ⟨below_drew HB.out⟩
      have cq2 : wr.drew.cell? ⟨b, q, none⟩ = some (.int .u8 x) := cq
      have fq2 : wr.drew.frozen? ⟨b, q, none⟩ = false := fq
      clear c0 cb cq fq HR HB HX
      change wpList _ _ _ _ _ wr.drew
      generalize wr.drew = wz at HR2 HB2 cq2 fq2 ⊢
      go_wp2
      go_roundw
      case rel => exact ⟨i + 1, by omega, by go_num, ⟨by rw [HP1.out]; exact HR2.out.store q _⟩, ⟨HB2.out.setCell (p := ⟨b, q, none⟩) (Nat.le_refl _) _⟩⟩
      case measure => simp [intOf]; omega
    · obtain rfl : i = n := by omega
      have hcv := HR.out.text
      rw [show bs.take i = bs by rw [← HN.out, List.take_length], HPK.out] at hcv
      go_wp2
      go_ret
      exact ⟨rfl, by rw [HBS.out]; exact HB.out⟩
end Go.Proofs.Ytfhekkoibmlmpaa.Hand

/- Plain words of layer 8: the reference's Check, part and Cost. -/
namespace Go.Proofs.Ytfhekkoibmlmpaa.Hand
open Go.RowKit Go.Proofs.Ytfhekkoibmlmpaa.Q Go.Proofs.YtfhekkoibmlmpaaW.PrintWords Go.Proofs.YtfhekkoibmlmpaaW.PrintLast Go.Proofs.YtfhekkoibmlmpaaW.PrintMore
set_option linter.unusedVariables false
set_option linter.unusedSimpArgs false

theorem xcheck_l0 (m o : Int) (ps es : List Int) (hl : es.length = ps.length) (hb : ps.length ≤ 65536) : ∀ (d i : Nat), i + d = ps.length →
    Ev (fun k => lacquerref08_Check.l0 k (ps.length : Nat) (if m = 1 then 30 else 14) (i : Nat) m o ps es) (restE m ps es d i)
  | 0, i, hi => by
    refine Ev.step (f := fun _ => some 0) (fun k => ?_) (Ev.now _)
    simp only [lacquerref08_Check.l0]
    rw [if_neg (by omega)]
  | d + 1, i, hi => by
    have ih := xcheck_l0 m o ps es hl hb d (i + 1) (by omega)
    unfold restE
    generalize hp : rd ps (i : Nat) = p
    generalize he : rd es (i : Nat) = e
    have hno : ¬ okPE m p e → Ev (fun k => some (60 : Int)) (if okPE m p e then restE m ps es d (i + 1) else 60) := fun h => by rw [if_neg h]; exact Ev.now _
    have hyes : okPE m p e → Ev (fun k => lacquerref08_Check.l0 k (ps.length : Nat) (if m = 1 then 30 else 14) ((i : Int) + 1) m o ps es) (if okPE m p e then restE m ps es d (i + 1) else 60) := fun h => by rw [if_pos h]; exact ih
    have key : ∀ k, lacquerref08_Check.l0 (k + 1) (ps.length : Nat) (if m = 1 then 30 else 14) (i : Nat) m o ps es = if e < -1 then some 60 else if e > 31 then some 60 else if e ≥ 0 then (if p = 0 then (if p < 0 then some 60 else if p > (if m = 1 then 30 else 14) then some 60 else lacquerref08_Check.l0 k (ps.length : Nat) (if m = 1 then 30 else 14) ((i : Int) + 1) m o ps es) else some 60) else (if p < 0 then some 60 else if p > (if m = 1 then 30 else 14) then some 60 else lacquerref08_Check.l0 k (ps.length : Nat) (if m = 1 then 30 else 14) ((i : Int) + 1) m o ps es) := fun k => by
      conv => lhs; simp only [lacquerref08_Check.l0]
      rw [he, if_pos (by omega), if_pos (by omega), if_pos (by omega)]
      by_cases a3 : e < -1
      · rw [if_pos a3, if_pos a3]
      rw [if_neg a3, if_neg a3]
      by_cases a4 : e > 31
      · rw [if_pos a4, if_pos a4]
      rw [if_neg a4, if_neg a4]
      rw [if_pos (show (i : Int) < (ps.length : Int) by omega), hp, w64h _ (by omega) (by omega)]
      by_cases a5 : e ≥ 0
      · rw [if_pos a5, if_pos a5]
      · rw [if_neg a5, if_neg a5, if_pos (by omega)]
    unfold okPE at hno hyes ⊢
    by_cases c3 : e < -1
    · exact Ev.step (fun k => by rw [key k, if_pos c3]) (hno (by omega))
    by_cases c4 : e > 31
    · exact Ev.step (fun k => by rw [key k, if_neg c3, if_pos c4]) (hno (by omega))
    by_cases c5 : e ≥ 0
    · by_cases c6 : p = 0
      · by_cases c1 : p < 0
        · exact Ev.step (fun k => by rw [key k, if_neg c3, if_neg c4, if_pos c5, if_pos c6, if_pos c1]) (hno (by omega))
        by_cases c2 : p > (if m = 1 then 30 else 14)
        · exact Ev.step (fun k => by rw [key k, if_neg c3, if_neg c4, if_pos c5, if_pos c6, if_neg c1, if_pos c2]) (hno (by omega))
        exact Ev.step (fun k => by rw [key k, if_neg c3, if_neg c4, if_pos c5, if_pos c6, if_neg c1, if_neg c2]) (hyes (by omega))
      · exact Ev.step (fun k => by rw [key k, if_neg c3, if_neg c4, if_pos c5, if_neg c6]) (hno (by omega))
    · by_cases c1 : p < 0
      · exact Ev.step (fun k => by rw [key k, if_neg c3, if_neg c4, if_neg c5, if_pos c1]) (hno (by omega))
      by_cases c2 : p > (if m = 1 then 30 else 14)
      · exact Ev.step (fun k => by rw [key k, if_neg c3, if_neg c4, if_neg c5, if_neg c1, if_pos c2]) (hno (by omega))
      exact Ev.step (fun k => by rw [key k, if_neg c3, if_neg c4, if_neg c5, if_neg c1, if_neg c2]) (hyes (by omega))
theorem xcheck_ev (m o : Int) (ps es : List Int) (block order : Int) : Ev (fun k => lacquerref08_Check.f k m o ps es block order) (if checkP m o ps es block order then 0 else 60) := by
  unfold lacquerref08_Check.f
  rw [xshape_eq m o ps es block order]
  have hno : ∀ x, Ev (fun k => lacquerref08_Check.j0 k x true m o ps es) 60 := fun x => Ev.step (f := fun _ => some 60) (fun k => by simp only [lacquerref08_Check.j0]; rw [if_pos trivial]) (Ev.now _)
  by_cases hs : shapeP m o block order
  · have ho : 0 ≤ o := hs.2.1
    have ho2 : o ≤ 15 := hs.2.2.1
    have hm : m = 0 ∨ m = 1 := hs.1
    obtain ⟨n, rfl⟩ := Int.eq_ofNat_of_zero_le ho
    have hw : IntKind.u64.wrap (n : Int) = (n : Int) := by rw [u64_wrap]; omega
    have hsl : shl .i64 1 (n : Int) = ((2 ^ n : Nat) : Int) := by rw [shl_lo 1 n (by omega) (by omega) (by omega), Int.one_mul]; simp
    rw [hw, hsl]
    by_cases hp : ps.length = 2 ^ n
    · by_cases he : es.length = 2 ^ n
      · have hb : ps.length ≤ 65536 := by
          have : 2 ^ n ≤ 2 ^ 15 := Nat.pow_le_pow_right (by decide) (by omega)
          omega
        have hmost : wrap64 (14 + wrap64 (16 * m)) = (if m = 1 then 30 else 14) := by rcases hm with rfl | rfl <;> simp [wrap64]
        have hl := xcheck_l0 m n ps es (by omega) hb ps.length 0 (by omega)
        rw [restE_eq] at hl
        have hval : (if checkP m n ps es block order then (0 : Int) else 60) = (if allPE m ps es ps.length 0 then 0 else 60) := by
          by_cases hall : allPE m ps es ps.length 0
          · rw [if_pos hall, if_pos ⟨hs, by simpa using hp, by simpa using he, fun i hi => by
              have := hall i hi
              rw [Nat.zero_add] at this
              exact this⟩]
          · rw [if_neg hall, if_neg (fun h => hall (fun j hj => by
              rw [Nat.zero_add]
              exact h.2.2.2 j hj))]
        rw [hval]
        refine Ev.congr (f := fun k => lacquerref08_Check.j0 k (ps.length : Nat) false m n ps es) (fun k => ?_) (Ev.step (fun k => ?_) hl)
        · rw [Option.bind_some, if_pos (decide_eq_true hs), if_pos ho, ← hp, if_pos rfl, bne_eq_false_iff_eq.mpr (by omega)]
        · simp only [lacquerref08_Check.j0]
          rw [if_neg (by decide), hmost]
          rfl
      · rw [if_neg (fun h => he (by have := h.2.2.1; simpa using this))]
        refine Ev.congr (f := fun k => lacquerref08_Check.j0 k ((2 ^ n : Nat) : Int) true m n ps es) (fun k => ?_) (hno _)
        rw [Option.bind_some, if_pos (decide_eq_true hs), if_pos ho, if_pos (by omega), bne_iff_ne.mpr (by omega)]
    · rw [if_neg (fun h => hp (by have := h.2.1; simpa using this))]
      refine Ev.congr (f := fun k => lacquerref08_Check.j0 k ((2 ^ n : Nat) : Int) true m n ps es) (fun k => ?_) (hno _)
      rw [Option.bind_some, if_pos (decide_eq_true hs), if_pos ho, if_neg (by omega)]
  · rw [if_neg (fun h => hs h.1)]
    refine Ev.congr (fun k => ?_) (Ev.now _)
    rw [Option.bind_some, if_neg (by simpa using hs)]
theorem xpart_eq (m : Int) (O Bk Od n i : Nat) (ps es : List Int) (hO : O ≤ 15) (hB : Bk ≤ 65535) (hd : Od ≤ 32) (hdiv : Bk = 2 ^ O * n) (hon : Od ≤ n) (hi : i < 2 ^ O) :
    lacquerref08_part.f m O ps es Bk Od i = some (((i * n - Od : Nat) : Int), (((i + 1) * n - Od : Nat) : Int)) := by
  have hw : IntKind.u64.wrap (O : Int) = (O : Int) := by rw [u64_wrap]; omega
  have hp := Nat.two_pow_pos O
  have hsr : shr .i64 (Bk : Int) (O : Int) = (n : Int) := by
    rw [shr_lo _ _ (by omega), hdiv]
    have e : (2 : Int) ^ O = ((2 ^ O : Nat) : Int) := by simp
    rw [e, ← Int.natCast_ediv, Nat.mul_div_cancel_left n hp]
  have h1 : (i + 1) * n ≤ 2 ^ O * n := Nat.mul_le_mul_right n (by omega)
  have h2 : (i + 1) * n = i * n + n := Nat.succ_mul i n
  have hO2 : 2 ^ O ≤ 2 ^ 15 := Nat.pow_le_pow_right (by decide) hO
  have e15 : (2 : Nat) ^ 15 = 32768 := by decide
  unfold lacquerref08_part.f
  rw [hw, if_pos (by omega), hsr, w64h ((i : Int) + 1) (by omega) (by omega)]
  have e1 : (i : Int) * (n : Int) = ((i * n : Nat) : Int) := by simp
  have e2 : ((i : Int) + 1) * (n : Int) = (((i + 1) * n : Nat) : Int) := by simp
  rw [e1, e2, w64h (((i + 1) * n : Nat) : Int) (by omega) (by omega), w64h ((i * n : Nat) : Int) (by omega) (by omega), w64h _ (by omega) (by omega)]
  by_cases h0 : i = 0
  · subst h0
    rw [if_pos (by decide)]
    refine congrArg some (Prod.ext ?_ ?_)
    · show (0 : Int) = ((0 * n - Od : Nat) : Int)
      rw [Nat.zero_mul, Nat.zero_sub]; rfl
    · show (((0 + 1) * n : Nat) : Int) - (Od : Int) = (((0 + 1) * n - Od : Nat) : Int)
      omega
  · have h3 : 1 * n ≤ i * n := Nat.mul_le_mul_right n (by omega)
    rw [if_neg (by omega), w64h _ (by omega) (by omega)]
    refine congrArg some (Prod.ext ?_ ?_)
    · show ((i * n : Nat) : Int) - (Od : Int) = ((i * n - Od : Nat) : Int)
      omega
    · show (((i + 1) * n : Nat) : Int) - (Od : Int) = (((i + 1) * n - Od : Nat) : Int)
      omega
/-- The reference's writer puts a number (in whole numbers). -/
theorem XPut_i (u K : Int) (X : List Bool) (hX : nbits u.toNat K.toNat = X) (u0 : 0 ≤ u) (k0 : 0 ≤ K) (k1 : K ≤ 64) (hu : u < 2 ^ K.toNat) (bs : List Bool) (B g : Nat) (v : Value) (w : World) (h : XW w B g v bs) (hl : bs.length + 64 < 140737488355328) :
    Calls Try.prog 12 #[.pointer (some ⟨g, 0, none⟩), .int .u64 u, .int .i64 K] w fun e w' => e = .returned (.int .i64 0) ∧ ∃ v', XW w' B g v' (bs ++ X) ∧ Moved B g w v w' v' := by
  obtain ⟨U, rfl⟩ := Int.eq_ofNat_of_zero_le u0
  obtain ⟨L, rfl⟩ := Int.eq_ofNat_of_zero_le k0
  rw [Int.toNat_natCast, Int.toNat_natCast] at hX
  rw [Int.toNat_natCast] at hu
  have h64 : (2 : Nat) ^ L ≤ 2 ^ 64 := Nat.pow_le_pow_right (by decide) (by omega)
  have e : (2 : Int) ^ L = ((2 ^ L : Nat) : Int) := by simp
  rw [e] at hu
  have e64 : (2 : Nat) ^ 64 = 18446744073709551616 := by decide
  subst hX
  exact XPut_yes U L (by omega) (by omega) (by omega) bs B g v w h hl
theorem partL_rd (l : List Int) (n Od i j : Nat) (h : j < (partL l n Od i).length) : rd (partL l n Od i) (j : Int) = rd l ((i * n - Od + j : Nat) : Int) ∧ i * n - Od + j < l.length := by
  unfold partL at h ⊢
  rw [List.length_drop, List.length_take] at h
  have h2 : i * n - Od + j < l.length := by omega
  refine ⟨?_, h2⟩
  have e1 : rd ((l.take ((i + 1) * n - Od)).drop (i * n - Od)) (j : Int) = ((l.take ((i + 1) * n - Od)).drop (i * n - Od))[j]'(by rw [List.length_drop, List.length_take]; omega) := by
    have hh : j < ((l.take ((i + 1) * n - Od)).drop (i * n - Od)).length := by rw [List.length_drop, List.length_take]; omega
    simp only [rd, Int.toNat_natCast]
    simp [List.getD_eq_getElem?_getD, List.getElem?_eq_getElem hh]
  rw [e1, List.getElem_drop, List.getElem_take]
  simp only [rd, Int.toNat_natCast]
  rw [List.getD_eq_getElem?_getD, List.getElem?_eq_getElem h2]
  rfl
end Go.Proofs.Ytfhekkoibmlmpaa.Hand
