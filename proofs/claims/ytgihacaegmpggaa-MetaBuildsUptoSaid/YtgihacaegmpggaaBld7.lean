/- Texts of this claim's proof, laid behind each other by a program of ours, without what the proof does not reach: The plain law of layer 13: a text as blocks; The plain law of layer 13: two lists of blocks; MetaParses; The plain law of layer 13: blocks as a text; Numbers in bytes (layer 02's plain laws, over this layer's printed functions): the reference; Printed by a program of ours (pp.sh), partly over contracts proved by hand; Printed by a program of ours (pp.sh), partly over contracts proved by hand; The plain law of layer 13: blocks as a text, the reference; The plain law of layer 13: the reference's Build; what was built is read as it was, what was read is built as it was; The plain law of layer 13: the reference's Build comes to the same; MetaBack; The laws MetaBuilds and MetaBack of layer 13, as contracts -/
import Derived.Test.YtgihacaegmpggaaBld1
import Derived.Test.YtgihacaegmpggaaBld2
import Derived.Test.YtgihacaegmpggaaBld3
import Derived.Test.YtgihacaegmpggaaBld4
import Derived.Test.YtgihacaegmpggaaBld5
import Derived.Test.YtgihacaegmpggaaBld6
import Derived.Test.YtgihacaegmpggaaBldWApart
import Derived.Test.YtgihacaegmpggaaBldWEqStruct
import Derived.Test.YtgihacaegmpggaaBldWFoot
import Derived.Test.YtgihacaegmpggaaBldWGuard
import Derived.Test.YtgihacaegmpggaaBldWInv
import Derived.Test.YtgihacaegmpggaaBldWKept
import Derived.Test.YtgihacaegmpggaaBldWLast
import Derived.Test.YtgihacaegmpggaaBldWMore
import Derived.Test.YtgihacaegmpggaaBldWN
import Derived.Test.YtgihacaegmpggaaBldWRepsOne
import Derived.Test.YtgihacaegmpggaaBldWShare
import Derived.Test.YtgihacaegmpggaaBldWTab
import Derived.Test.YtgihacaegmpggaaBldWWords
/- The plain law of layer 13: a text as blocks. -/
namespace Go.Proofs.Ytgihacaegmpggaa.Plain
open Go.RowKit Go.Proofs.Ytgihacaegmpggaa Go.Proofs.Ytgihacaegmpggaa.R Go.Proofs.Ytgihacaegmpggaa.Be Go.Proofs.YtgihacaegmpggaaW.PrintWords Go.Proofs.YtgihacaegmpggaaW.PrintLast Go.Proofs.YtgihacaegmpggaaW.PrintMore
set_option linter.unusedVariables false
set_option linter.unusedSimpArgs false

theorem and_fin : ∀ c : Fin 256, Go.bits .and .u8 (c.val : Int) 127 = (c.val : Int) % 128 := by decide +kernel
theorem and_u8 (x : Int) (h : 0 ≤ x ∧ x ≤ 255) : wrap64 (Go.bits .and .u8 x 127) = x % 128 := by
  obtain ⟨c, hc⟩ : ∃ c : Fin 256, x = (c.val : Int) := ⟨⟨x.toNat, by omega⟩, by simp; omega⟩
  rw [hc, and_fin c, w64 _ (by omega) (by omega)]
theorem and_64 (x : Int) : Go.bits .and .i64 x 127 = x % 128 := Be.and_mask x 7 (by decide)

def typ (s : ByteArray) (p : Nat) : Int := bt s (p : Nat) % 128
def len3 (s : ByteArray) (p : Nat) : Int := fbR (s.extract (p + 1) (p + 4))
def body (s : ByteArray) (p : Nat) : ByteArray := s.extract (p + 4) (p + 4 + (len3 s p).toNat)
def com (c t : Int) : Int := if t = 4 then c + 1 else c
def bad (l : List S36) (c t : Int) : Bool := decide (t = 127) || (decide (1 < c) || (decide (l.length = 0) != decide (t = 0)))
/-- What follows behind a block's head. -/
def nxt (l : List S36) (c t : Int) (b : ByteArray) (r : List S36 × Int × Int) : List S36 × Int × Int :=
  if bad l c t = true then ([], 0, 2) else if l.length = 1024 then ([], 0, 5) else if checkF t b = 0 then r else ([], 0, checkF t b)
def prs (s : ByteArray) : Nat → List S36 → Nat → Int → List S36 × Int × Int
  | 0, _, _, _ => ([], 0, 2)
  | d + 1, l, p, c =>
    if s.size < p + 4 then ([], 0, 2)
    else if (s.size : Int) - ((p + 4 : Nat) : Int) < len3 s p then ([], 0, 2)
    else nxt l (com c (typ s p)) (typ s p) (body s p)
      (if 127 < bt s (p : Nat) then (l ++ [⟨typ s p, body s p⟩], ((p + 4 + (len3 s p).toNat : Nat) : Int), 0)
       else prs s d (l ++ [⟨typ s p, body s p⟩]) (p + 4 + (len3 s p).toNat) (com c (typ s p)))
theorem eq0 (n : Nat) : ((n : Int) == 0) = decide (n = 0) := by rw [Bool.eq_iff_iff]; simp
theorem eqz (t : Int) : (t == 0) = decide (t = 0) := by rw [Bool.eq_iff_iff]; simp
theorem parse_j3 (s : ByteArray) (l : List S36) (rest : ByteArray) (last : Bool) (c t : Int) (b : ByteArray) (flag : Bool) (hl : l.length ≤ 1024) (r : List S36 × Int × Int)
    (hnext : flag = false → l.length ≠ 1024 → checkF t b = 0 → Ev (fun k => meta_Parse.l0 k s (l ++ [⟨t, b⟩]) rest last c) r) :
    Ev (fun k => meta_Parse.j3 k s l rest last c flag t b) (if flag = true then ([], 0, 2) else if l.length = 1024 then ([], 0, 5) else if checkF t b = 0 then r else ([], 0, checkF t b)) := by
  by_cases hf : flag = true
  · rw [if_pos hf]
    refine Ev.step (f := fun _ => some ([], 0, 2)) (fun k => ?_) (Ev.now _)
    simp only [meta_Parse.j3]
    rw [if_pos hf]
  · rw [if_neg hf]
    by_cases h1 : l.length = 1024
    · rw [if_pos h1]
      refine Ev.step (f := fun _ => some ([], 0, 5)) (fun k => ?_) (Ev.now _)
      simp only [meta_Parse.j3]
      rw [if_neg hf, if_pos (by omega)]
    · rw [if_neg h1]
      refine Ev.step (f := fun k => (meta_Check.f k t b).bind fun q => if q = 0 then (if l.length < 5864062014805 then meta_Parse.l0 k s (l ++ [⟨t, b⟩]) rest last c else none) else some ([], 0, q)) (fun k => ?_) ?_
      · simp only [meta_Parse.j3]
        rw [if_neg hf, if_neg (by omega)]
      · refine Ev.bind (check_ev t b) ?_
        by_cases h0 : checkF t b = 0
        · rw [if_pos h0]
          refine Ev.congr (fun k => ?_) (hnext (Bool.eq_false_iff.mpr hf) h1 h0)
          show (if checkF t b = 0 then _ else _) = _
          rw [if_pos h0, if_pos (by omega)]
        · rw [if_neg h0]
          refine Ev.congr (f := fun _ => some ([], 0, checkF t b)) (fun k => ?_) (Ev.now _)
          show (if checkF t b = 0 then _ else _) = _
          rw [if_neg h0]
theorem parse_j2 (s : ByteArray) (l : List S36) (rest : ByteArray) (last : Bool) (c t : Int) (b : ByteArray) (hc : c ≤ 2) (hl : l.length ≤ 1024) (r : List S36 × Int × Int)
    (hnext : bad l c t = false → l.length ≠ 1024 → checkF t b = 0 → Ev (fun k => meta_Parse.l0 k s (l ++ [⟨t, b⟩]) rest last c) r) :
    Ev (fun k => meta_Parse.j2 k s l rest last c t b) (nxt l c t b r) := by
  have h := parse_j3 s l rest last c t b (bad l c t) hl r hnext
  refine Ev.step (fun k => ?_) h
  simp only [meta_Parse.j2]
  by_cases h1 : t = 127
  · rw [if_pos h1]
    have : bad l c t = true := by unfold bad; rw [decide_eq_true h1]; rfl
    rw [this]
  · rw [if_neg h1]
    by_cases h2 : c = 2
    · rw [if_pos h2]
      have : bad l c t = true := by unfold bad; rw [decide_eq_true (show 1 < c by omega)]; simp
      rw [this]
    · rw [if_neg h2]
      have : bad l c t = (((l.length : Int) == 0) != (t == 0)) := by
        unfold bad
        rw [decide_eq_false h1, decide_eq_false (show ¬ 1 < c by omega), eq0, eqz]
        rfl
      rw [this]
theorem parse_last (s : ByteArray) (l : List S36) (q : Nat) (c : Int) (hq : q ≤ s.size) (hs : s.size ≤ 140737488355328) : Ev (fun k => meta_Parse.l0 k s l (s.extract q s.size) true c) (l, (q : Int), 0) := by
  refine Ev.step (f := fun _ => some (l, (q : Int), 0)) (fun k => ?_) (Ev.now _)
  simp only [meta_Parse.l0]
  rw [if_pos trivial, size_tail, w64 _ (by omega) (by omega)]
  congr 3
  omega
theorem len3_in (s : ByteArray) (p : Nat) : 0 ≤ len3 s p ∧ len3 s p < 16777216 := by
  have hz : (s.extract (p + 1) (p + 4)).size ≤ 3 := by rw [ByteArray.size_extract]; omega
  have h := fb_in (s.extract (p + 1) (p + 4)) (by omega)
  have h2 : (256 : Int) ^ (s.extract (p + 1) (p + 4)).size ≤ 16777216 := by
    rcases (show (s.extract (p + 1) (p + 4)).size = 0 ∨ (s.extract (p + 1) (p + 4)).size = 1 ∨ (s.extract (p + 1) (p + 4)).size = 2 ∨ (s.extract (p + 1) (p + 4)).size = 3 by omega) with e | e | e | e <;> rw [e] <;> decide
  unfold len3
  omega
theorem parse_l0 (s : ByteArray) (hs : s.size ≤ 140737488355328) : ∀ (d p : Nat) (l : List S36) (c : Int), p ≤ s.size → s.size - p < d → c ≤ 1 → -1 ≤ c → l.length ≤ 1024 →
    Ev (fun k => meta_Parse.l0 k s l (s.extract p s.size) false c) (prs s d l p c)
  | 0, p, l, c, hp, hd, h1, h0, hl => by omega
  | d + 1, p, l, c, hp, hd, h1, h0, hl => by
    have hz := size_tail s p
    have hbad : Ev (fun k => meta_Parse.j1 k s l (s.extract p s.size) c true) ([], 0, 2) := by
      refine Ev.step (f := fun _ => some ([], 0, 2)) (fun k => ?_) (Ev.now _)
      simp only [meta_Parse.j1]
      rw [if_pos trivial]
    unfold prs
    by_cases h4 : s.size < p + 4
    · rw [if_pos h4]
      refine Ev.step (fun k => ?_) hbad
      simp only [meta_Parse.l0]
      rw [if_neg (by decide), if_pos (by rw [hz]; omega)]
    · rw [if_neg h4]
      have e14 : (s.extract p s.size).extract 1 4 = s.extract (p + 1) (p + 4) := extract_mid s p 1 4 (by omega)
      have hev : Ev (fun k => bytes_FromBe.f k (s.extract (p + 1) (p + 4))) (len3 s p) := Be.FromBe_ev _
      have hn := len3_in s p
      have hw : wrap64 (((s.extract p s.size).size : Int) - 4) = (s.size : Int) - ((p + 4 : Nat) : Int) := by rw [hz, w64 _ (by omega) (by omega)]; omega
      refine Ev.step (f := fun k => (bytes_FromBe.f k (s.extract (p + 1) (p + 4))).bind fun t => meta_Parse.j1 k s l (s.extract p s.size) c (decide (t > (s.size : Int) - ((p + 4 : Nat) : Int)))) (fun k => ?_) (Ev.bind hev ?_)
      · simp only [meta_Parse.l0]
        rw [if_neg (by decide), if_neg (by rw [hz]; omega), if_pos (by decide), if_pos (by rw [hz]; omega), e14, hw]
      · by_cases hlong : (s.size : Int) - ((p + 4 : Nat) : Int) < len3 s p
        · rw [if_pos hlong, decide_eq_true hlong]
          exact hbad
        · rw [if_neg hlong, decide_eq_false hlong]
          have hb0 : bt (s.extract p s.size) 0 = bt s (p : Nat) := bt_extract s p s.size 0 (Nat.le_refl _) (by omega)
          have hbi := bt_in s (p : Nat)
          have ht : wrap64 (Go.bits .and .u8 (bt s (p : Nat)) 127) = typ s p := and_u8 _ hbi
          have hbd : (s.extract p s.size).extract 4 (4 + (len3 s p).toNat) = body s p := by
            rw [extract_mid s p 4 (4 + (len3 s p).toNat) (by omega)]
            unfold body
            rw [Nat.add_assoc p 4]
          have hrs : (s.extract p s.size).extract (4 + (len3 s p).toNat) (s.extract p s.size).size = s.extract (p + 4 + (len3 s p).toNat) s.size := by
            rw [extract_tail s p _ hp, Nat.add_assoc p 4]
          have hq : p + 4 + (len3 s p).toNat ≤ s.size := by omega
          have ih := fun l' c' (hl' : l'.length ≤ 1024) (hc1 : c' ≤ 1) (hc0 : -1 ≤ c') => parse_l0 s hs d (p + 4 + (len3 s p).toNat) l' c' hq (by omega) hc1 hc0 hl'
          have hlast := fun l' c' => parse_last s l' (p + 4 + (len3 s p).toNat) c' hq hs
          have h4n : wrap64 (4 + len3 s p) = ((4 + (len3 s p).toNat : Nat) : Int) := by rw [w64 _ (by omega) (by omega)]; omega
          have hcm : com c (typ s p) ≤ 2 ∧ -1 ≤ com c (typ s p) := by unfold com; split <;> omega
          have hj2 := parse_j2 s l (s.extract (p + 4 + (len3 s p).toNat) s.size) (decide (127 < bt s (p : Nat))) (com c (typ s p)) (typ s p) (body s p) hcm.1 hl
            (if 127 < bt s (p : Nat) then (l ++ [⟨typ s p, body s p⟩], ((p + 4 + (len3 s p).toNat : Nat) : Int), 0) else prs s d (l ++ [⟨typ s p, body s p⟩]) (p + 4 + (len3 s p).toNat) (com c (typ s p))) (by
              intro hb hl2 _
              have hc1 : com c (typ s p) ≤ 1 := by
                unfold bad at hb
                simp at hb
                omega
              by_cases hla : 127 < bt s (p : Nat)
              · rw [if_pos hla, decide_eq_true hla]
                exact hlast _ _
              · rw [if_neg hla, decide_eq_false hla]
                exact ih _ _ (by rw [List.length_append, List.length_singleton]; omega) hc1 hcm.2)
          refine Ev.step (f := fun k => (bytes_FromBe.f k (s.extract (p + 1) (p + 4))).bind fun t => if 0 < ((s.extract p s.size).size : Int) then (if 4 ≤ wrap64 (4 + t) then (if wrap64 (4 + t) ≤ ((s.extract p s.size).size : Int) then (if 0 ≤ wrap64 (4 + t) then
              (if wrap64 (Go.bits .and .u8 (bt (s.extract p s.size) 0) 127) = 4 then meta_Parse.j2 k s l ((s.extract p s.size).extract (wrap64 (4 + t)).toNat (s.extract p s.size).size) (decide (bt (s.extract p s.size) 0 > 127)) (wrap64 (c + 1)) (wrap64 (Go.bits .and .u8 (bt (s.extract p s.size) 0) 127)) ((s.extract p s.size).extract 4 (wrap64 (4 + t)).toNat)
               else meta_Parse.j2 k s l ((s.extract p s.size).extract (wrap64 (4 + t)).toNat (s.extract p s.size).size) (decide (bt (s.extract p s.size) 0 > 127)) c (wrap64 (Go.bits .and .u8 (bt (s.extract p s.size) 0) 127)) ((s.extract p s.size).extract 4 (wrap64 (4 + t)).toNat)) else none) else none) else none) else none) (fun k => ?_) (Ev.bind hev ?_)
          · simp only [meta_Parse.j1]
            rw [if_neg (by decide), if_pos (by decide), if_pos (by rw [hz]; omega), e14]
          · refine Ev.congr (fun k => ?_) hj2
            rw [if_pos (by rw [hz]; omega), h4n, if_pos (by omega), if_pos (by rw [hz]; omega), if_pos (by omega), hb0, ht, Int.toNat_natCast, hrs, hbd]
            unfold com
            by_cases h44 : typ s p = 4
            · rw [if_pos h44, if_pos h44, w64 (c + 1) (by omega) (by omega)]
            · rw [if_neg h44, if_neg h44]
def parseF (s : ByteArray) : List S36 × Int × Int := prs s (s.size + 1) [] 0 0
theorem parse_ev (s : ByteArray) (hs : s.size ≤ 140737488355328) : Ev (fun k => meta_Parse.f k s) (parseF s) := by
  have := parse_l0 s hs (s.size + 1) 0 [] 0 (by omega) (by omega) (by omega) (by omega) (by simp)
  rw [show s.extract 0 s.size = s from ByteArray.extract_zero_size] at this
  exact this
theorem xparse_j2 (s : ByteArray) (l : List S36) (q : Nat) (c h t : Int) (b : ByteArray) (flag : Bool) (hl : l.length ≤ 1024) (r : List S36 × Int × Int)
    (hnext : flag = false → l.length ≠ 1024 → checkF t b = 0 → ¬ h > 127 → Ev (fun k => lacquerref13_Parse.l0 k s (l ++ [⟨t, b⟩]) (q : Nat) c) r) :
    Ev (fun k => lacquerref13_Parse.j2 k s l (q : Nat) c h flag t b) (if flag = true then ([], 0, 2) else if l.length = 1024 then ([], 0, 5) else if checkF t b = 0 then (if 127 < h then (l ++ [⟨t, b⟩], (q : Int), 0) else r) else ([], 0, checkF t b)) := by
  by_cases hf : flag = true
  · rw [if_pos hf]
    refine Ev.step (f := fun _ => some ([], 0, 2)) (fun k => ?_) (Ev.now _)
    simp only [lacquerref13_Parse.j2]
    rw [if_pos hf]
  · rw [if_neg hf]
    by_cases h1 : l.length = 1024
    · rw [if_pos h1]
      refine Ev.step (f := fun _ => some ([], 0, 5)) (fun k => ?_) (Ev.now _)
      simp only [lacquerref13_Parse.j2]
      rw [if_neg hf, if_pos (by omega)]
    · rw [if_neg h1]
      refine Ev.step (f := fun k => (lacquerref13_Check.f k t b).bind fun z => if z = 0 then (if l.length < 5864062014805 then ((some (l ++ [⟨t, b⟩])).bind fun y => if h > 127 then some (y, (q : Int), 0) else lacquerref13_Parse.l0 k s y (q : Nat) c) else none) else some ([], 0, z)) (fun k => ?_) ?_
      · simp only [lacquerref13_Parse.j2]
        rw [if_neg hf, if_neg (by omega)]
      · refine Ev.bind (xcheck_ev t b) ?_
        by_cases h0 : checkF t b = 0
        · rw [if_pos h0]
          by_cases hh : h > 127
          · rw [if_pos hh]
            refine Ev.congr (f := fun _ => some (l ++ [⟨t, b⟩], (q : Int), 0)) (fun k => ?_) (Ev.now _)
            show (if checkF t b = 0 then _ else _) = _
            rw [if_pos h0, if_pos (by omega), Option.bind_some, if_pos hh]
          · rw [if_neg hh]
            refine Ev.congr (fun k => ?_) (hnext (Bool.eq_false_iff.mpr hf) h1 h0 hh)
            show (if checkF t b = 0 then _ else _) = _
            rw [if_pos h0, if_pos (by omega), Option.bind_some, if_neg hh]
        · rw [if_neg h0]
          refine Ev.congr (f := fun _ => some ([], 0, checkF t b)) (fun k => ?_) (Ev.now _)
          show (if checkF t b = 0 then _ else _) = _
          rw [if_neg h0]
theorem xparse_j1 (s : ByteArray) (l : List S36) (q : Nat) (c h t : Int) (b : ByteArray) (hl : l.length ≤ 1024) (r : List S36 × Int × Int)
    (hnext : bad l c t = false → l.length ≠ 1024 → checkF t b = 0 → ¬ h > 127 → Ev (fun k => lacquerref13_Parse.l0 k s (l ++ [⟨t, b⟩]) (q : Nat) c) r) :
    Ev (fun k => lacquerref13_Parse.j1 k s l (q : Nat) c h t b) (nxt l c t b (if 127 < h then (l ++ [⟨t, b⟩], (q : Int), 0) else r)) := by
  have h2 := xparse_j2 s l q c h t b (bad l c t) hl r hnext
  refine Ev.step (fun k => ?_) h2
  simp only [lacquerref13_Parse.j1]
  by_cases h1 : ((t == 0) != ((l.length : Int) == 0)) = true
  · rw [if_pos h1]
    have : bad l c t = true := by
      unfold bad
      rw [eq0, eqz] at h1
      rw [show (decide (l.length = 0) != decide (t = 0)) = true by revert h1; cases decide (l.length = 0) <;> cases decide (t = 0) <;> simp]
      simp
    rw [this]
  · rw [if_neg h1]
    have h3 : (decide (l.length = 0) != decide (t = 0)) = false := by
      rw [eq0, eqz] at h1
      revert h1
      cases decide (l.length = 0) <;> cases decide (t = 0) <;> simp
    by_cases h4 : t = 127
    · rw [if_pos h4]
      have : bad l c t = true := by unfold bad; rw [decide_eq_true h4]; rfl
      rw [this]
    · rw [if_neg h4]
      have : bad l c t = decide (c > 1) := by
        unfold bad
        rw [decide_eq_false h4, h3, Bool.or_false, Bool.false_or]
      rw [this]
theorem xparse_l0 (s : ByteArray) (hs : s.size ≤ 140737488355328) : ∀ (d p : Nat) (l : List S36) (c : Int), p ≤ s.size → s.size - p < d → c ≤ 1 → -1 ≤ c → l.length ≤ 1024 →
    Ev (fun k => lacquerref13_Parse.l0 k s l (p : Nat) c) (prs s d l p c)
  | 0, p, l, c, hp, hd, h1, h0, hl => by omega
  | d + 1, p, l, c, hp, hd, h1, h0, hl => by
    have e4 : wrap64 ((p : Int) + 4) = ((p + 4 : Nat) : Int) := by rw [w64 _ (by omega) (by omega)]; omega
    have e1 : wrap64 ((p : Int) + 1) = ((p + 1 : Nat) : Int) := by rw [w64 _ (by omega) (by omega)]; omega
    unfold prs
    by_cases h4 : s.size < p + 4
    · rw [if_pos h4]
      refine Ev.step (f := fun _ => some ([], 0, 2)) (fun k => ?_) (Ev.now _)
      simp only [lacquerref13_Parse.l0]
      rw [e4, if_pos (by omega)]
    · rw [if_neg h4]
      have hev : Ev (fun k => lacquerref02_FromBe.f k (s.extract (p + 1) (p + 4))) (len3 s p) := Be.FromBeR_ev _
      have hn := len3_in s p
      have hbi := bt_in s (p : Nat)
      have hwb : wrap64 (bt s (p : Nat)) = bt s (p : Nat) := w64 _ (by omega) (by omega)
      have ht : Go.bits .and .i64 (bt s (p : Nat)) 127 = typ s p := and_64 _
      have hsub : wrap64 ((s.size : Int) - ((p + 4 : Nat) : Int)) = (s.size : Int) - ((p + 4 : Nat) : Int) := w64 _ (by omega) (by omega)
      refine Ev.step (f := fun k => (lacquerref02_FromBe.f k (s.extract (p + 1) (p + 4))).bind fun t => if t > (s.size : Int) - ((p + 4 : Nat) : Int) then some ([], 0, 2) else if (0 : Int) ≤ ((p + 4 : Nat) : Int) then (if ((p + 4 : Nat) : Int) ≤ wrap64 (((p + 4 : Nat) : Int) + t) then (if wrap64 (((p + 4 : Nat) : Int) + t) ≤ (s.size : Int) then
          (if typ s p = 4 then lacquerref13_Parse.j1 k s l (wrap64 (((p + 4 : Nat) : Int) + t)) (wrap64 (c + 1)) (bt s (p : Nat)) (typ s p) (s.extract (p + 4) (wrap64 (((p + 4 : Nat) : Int) + t)).toNat)
           else lacquerref13_Parse.j1 k s l (wrap64 (((p + 4 : Nat) : Int) + t)) c (bt s (p : Nat)) (typ s p) (s.extract (p + 4) (wrap64 (((p + 4 : Nat) : Int) + t)).toNat)) else none) else none) else none) (fun k => ?_) (Ev.bind hev ?_)
      · simp only [lacquerref13_Parse.l0]
        rw [e4, e1, if_neg (by omega), if_pos (by omega), if_pos (by omega), if_pos (by omega), if_pos (by omega), if_pos (by omega), Int.toNat_natCast, Int.toNat_natCast, hsub, hwb, ht]
      · by_cases hlong : (s.size : Int) - ((p + 4 : Nat) : Int) < len3 s p
        · rw [if_pos hlong]
          exact Ev.congr (f := fun _ => some ([], 0, 2)) (fun k => if_pos hlong) (Ev.now _)
        · rw [if_neg hlong]
          have hq : p + 4 + (len3 s p).toNat ≤ s.size := by omega
          have hw : wrap64 (((p + 4 : Nat) : Int) + len3 s p) = ((p + 4 + (len3 s p).toNat : Nat) : Int) := by rw [w64 _ (by omega) (by omega)]; omega
          have hcm : com c (typ s p) ≤ 2 ∧ -1 ≤ com c (typ s p) := by unfold com; split <;> omega
          have hj := xparse_j1 s l (p + 4 + (len3 s p).toNat) (com c (typ s p)) (bt s (p : Nat)) (typ s p) (body s p) hl (prs s d (l ++ [⟨typ s p, body s p⟩]) (p + 4 + (len3 s p).toNat) (com c (typ s p))) (by
              intro hb hl2 _ _
              have hc1 : com c (typ s p) ≤ 1 := by
                unfold bad at hb
                simp at hb
                omega
              exact xparse_l0 s hs d _ _ _ hq (by omega) hc1 hcm.2 (by rw [List.length_append, List.length_singleton]; omega))
          refine Ev.congr (fun k => ?_) hj
          rw [if_neg hlong, if_pos (by omega), hw, if_pos (by omega), if_pos (by omega), Int.toNat_natCast]
          unfold com
          by_cases h44 : typ s p = 4
          · rw [if_pos h44, if_pos h44, w64 (c + 1) (by omega) (by omega)]
            rfl
          · rw [if_neg h44, if_neg h44]
            rfl
theorem xparse_ev (s : ByteArray) (hs : s.size ≤ 140737488355328) : Ev (fun k => lacquerref13_Parse.f k s) (parseF s) :=
  xparse_l0 s hs (s.size + 1) 0 [] 0 (by omega) (by omega) (by omega) (by omega) (by simp)
end Go.Proofs.Ytgihacaegmpggaa.Plain

/- The plain law of layer 13: two lists of blocks; MetaParses. -/
namespace Go.Proofs.Ytgihacaegmpggaa.Plain
open Go.RowKit Go.Proofs.Ytgihacaegmpggaa Go.Proofs.Ytgihacaegmpggaa.R Go.Proofs.Ytgihacaegmpggaa.Be Go.Proofs.YtgihacaegmpggaaW.PrintWords Go.Proofs.YtgihacaegmpggaaW.PrintLast Go.Proofs.YtgihacaegmpggaaW.PrintMore
set_option linter.unusedVariables false
set_option linter.unusedSimpArgs false

def neB (a b : S36) : Bool := !(a.f0 == b.f0) || !(a.f1.toList == b.f1.toList)
theorem neB_iff (a b : S36) : neB a b = true ↔ a ≠ b := by
  unfold neB
  obtain ⟨a0, a1⟩ := a
  obtain ⟨b0, b1⟩ := b
  constructor
  · intro h e
    injection e with e0 e1
    subst e0 e1
    simp at h
  · intro h
    by_cases e0 : a0 = b0
    · by_cases e1 : a1.toList = b1.toList
      · exact absurd (by rw [e0, toList_inj e1]) h
      · simp [e1]
    · simp [e0]
def sl (l m : List S36) : Nat → Nat → Bool
  | 0, _ => true
  | d + 1, i => if neB (rd_T36 l i) (rd_T36 m i) = true then false else sl l m d (i + 1)
def sameB (l m : List S36) : Bool := if l.length = m.length then sl l m l.length 0 else false
theorem same_l0 (l m : List S36) (he : l.length = m.length) (hl : l.length ≤ 140737488355328) : ∀ (d i : Nat), i + d = l.length → Ev (fun k => lacquerref13_Same.l0 k l m (i : Nat)) (sl l m d i)
  | 0, i, hi => by
    refine Ev.step (f := fun _ => some true) (fun k => ?_) (Ev.now _)
    simp only [lacquerref13_Same.l0]
    rw [if_neg (by omega)]
  | d + 1, i, hi => by
    unfold sl
    by_cases h : neB (rd_T36 l i) (rd_T36 m i) = true
    · rw [if_pos h]
      refine Ev.step (f := fun _ => some false) (fun k => ?_) (Ev.now _)
      simp only [lacquerref13_Same.l0]
      unfold neB at h
      rw [if_pos (by omega), if_pos (by omega), if_pos (by omega), if_pos h]
    · rw [if_neg h]
      refine Ev.step (fun k => ?_) (same_l0 l m he hl d (i + 1) (by omega))
      simp only [lacquerref13_Same.l0]
      unfold neB at h
      rw [if_pos (by omega), if_pos (by omega), if_pos (by omega), if_neg h, w64 ((i : Int) + 1) (by omega) (by omega)]
      rfl
theorem same_ev (l m : List S36) (hl : l.length ≤ 140737488355328) : Ev (fun k => lacquerref13_Same.f k l m) (sameB l m) := by
  unfold sameB
  by_cases he : l.length = m.length
  · rw [if_pos he]
    refine Ev.congr (fun k => ?_) (same_l0 l m he hl l.length 0 (by omega))
    unfold lacquerref13_Same.f
    rw [if_pos (by omega)]
    rfl
  · rw [if_neg he]
    refine Ev.congr (f := fun _ => some false) (fun k => ?_) (Ev.now _)
    unfold lacquerref13_Same.f
    rw [if_neg (by omega)]
theorem block_l0 (l m : List S36) (he : l.length = m.length) (hl : l.length ≤ 140737488355328) : ∀ (d i : Nat), i + d = l.length → Ev (fun k => api_Block.l0 k l m (l.length : Nat) (i : Nat)) (sl l m d i)
  | 0, i, hi => by
    refine Ev.step (f := fun _ => some true) (fun k => ?_) (Ev.now _)
    simp only [api_Block.l0]
    rw [if_neg (by omega)]
  | d + 1, i, hi => by
    unfold sl
    by_cases h : neB (rd_T36 l i) (rd_T36 m i) = true
    · rw [if_pos h]
      refine Ev.step (f := fun _ => some false) (fun k => ?_) (Ev.now _)
      simp only [api_Block.l0]
      unfold neB at h
      rw [if_pos (by omega), if_pos (by omega), if_pos (by omega), if_pos (by omega), if_pos h]
    · rw [if_neg h]
      refine Ev.step (fun k => ?_) (block_l0 l m he hl d (i + 1) (by omega))
      simp only [api_Block.l0]
      unfold neB at h
      rw [if_pos (by omega), if_pos (by omega), if_pos (by omega), if_pos (by omega), if_neg h, w64 ((i : Int) + 1) (by omega) (by omega)]
      rfl
theorem block_ev (l m : List S36) (hl : l.length ≤ 140737488355328) : Ev (fun k => api_Block.f k l m) (sameB l m) := by
  unfold sameB
  by_cases he : l.length = m.length
  · rw [if_pos he]
    refine Ev.congr (fun k => ?_) (block_l0 l m he hl l.length 0 (by omega))
    unfold api_Block.f
    rw [if_pos (by omega)]
    rfl
  · rw [if_neg he]
    refine Ev.congr (f := fun _ => some false) (fun k => ?_) (Ev.now _)
    unfold api_Block.f
    rw [if_neg (by omega)]
theorem sl_eq (l m : List S36) : ∀ d i, sl l m d i = true → ∀ j, i ≤ j → j < i + d → rd_T36 l j = rd_T36 m j
  | 0, _, _, j, h1, h2 => by omega
  | d + 1, i, h, j, h1, h2 => by
    unfold sl at h
    by_cases hn : neB (rd_T36 l i) (rd_T36 m i) = true
    · rw [if_pos hn] at h
      cases h
    · rw [if_neg hn] at h
      by_cases e : j = i
      · subst e
        exact Classical.byContradiction fun hc => hn ((neB_iff _ _).2 hc)
      · exact sl_eq l m d (i + 1) h j (by omega) (by omega)
theorem sameB_eq {l m : List S36} (h : sameB l m = true) : l = m := by
  unfold sameB at h
  by_cases he : l.length = m.length
  · rw [if_pos he] at h
    refine List.ext_getElem he fun j h1 h2 => ?_
    have := sl_eq l m _ _ h j (by omega) (by omega)
    simpa [rd_T36, h1, h2] using this
  · rw [if_neg he] at h
    cases h
end Go.Proofs.Ytgihacaegmpggaa.Plain

/- The plain law of layer 13: blocks as a text. -/
namespace Go.Proofs.Ytgihacaegmpggaa.Plain
open Go.RowKit Go.Proofs.Ytgihacaegmpggaa Go.Proofs.Ytgihacaegmpggaa.R Go.Proofs.Ytgihacaegmpggaa.Be Go.Proofs.YtgihacaegmpggaaW.PrintWords Go.Proofs.YtgihacaegmpggaaW.PrintLast Go.Proofs.YtgihacaegmpggaaW.PrintMore
set_option linter.unusedVariables false
set_option linter.unusedSimpArgs false

theorem check_zero {t : Int} {b : ByteArray} (h : checkF t b = 0) : 0 ≤ t ∧ t ≤ 126 ∧ b.size < 16777216 := by
  unfold checkF at h
  by_cases h0 : t < 0
  · rw [if_pos h0] at h
    cases h
  rw [if_neg h0] at h
  by_cases h1 : 126 < t
  · rw [if_pos h1] at h
    cases h
  rw [if_neg h1] at h
  by_cases h2 : 16777216 ≤ b.size
  · rw [if_pos h2] at h
    cases h
  omega
theorem or_fin : ∀ c : Fin 127, Go.bits .or .u8 (c.val : Int) 128 = (c.val : Int) + 128 := by decide +kernel
theorem or_128 (t : Int) (h : 0 ≤ t ∧ t ≤ 126) : Go.bits .or .u8 (t % 256) 128 = t + 128 := by
  obtain ⟨c, hc⟩ : ∃ c : Fin 127, t = (c.val : Int) := ⟨⟨t.toNat, by omega⟩, by simp; omega⟩
  rw [show t % 256 = t by omega, hc, or_fin c]
def hd (b : S36) (last : Bool) : Int := if last = true then b.f0 + 128 else b.f0
def prt (b : S36) (last : Bool) : List Int := hd b last :: ((leL 3 (b.f1.size : Int)).reverse ++ bytesOf b.f1)
def bld (l : List S36) : Nat → Nat → List Int → Option (List Int)
  | 0, _, out => some out
  | d + 1, i, out => if checkF (rd_T36 l i).f0 (rd_T36 l i).f1 = 0 then bld l d (i + 1) (out ++ prt (rd_T36 l i) (decide (i + 1 = l.length))) else none
def tot (l : List S36) : Nat → Nat → Nat
  | 0, _ => 0
  | d + 1, i => 4 + (rd_T36 l i).f1.size + tot l d (i + 1)
def fin_ (l : List S36) : Option (List Int) → ByteArray × Int
  | none => (⟨#[]⟩, 60)
  | some out => if (parseF (strOfNums out)).2.2 = 0 then (if sameB l (parseF (strOfNums out)).1 = true then (strOfNums out, 0) else (⟨#[]⟩, 60)) else (⟨#[]⟩, 60)
def buildF (l : List S36) : ByteArray × Int := fin_ l (bld l l.length 0 [])
theorem be3 (n : Nat) (h : n < 16777216) : beR (n : Int) 3 = (strOfNums (leL 3 (n : Int)).reverse, 0) := by
  unfold beR
  rw [if_pos ⟨by decide, by decide, by omega, by simp; omega⟩]
  rfl
theorem be3_bytes (n : Nat) : bytesOf (strOfNums (leL 3 (n : Int)).reverse) = (leL 3 (n : Int)).reverse :=
  bytesOf_strOfNums _ (fun x hx => leL_bytes 3 _ x (List.mem_reverse.1 hx))
theorem prt_length (b : S36) (last : Bool) : (prt b last).length = 4 + b.f1.size := by
  unfold prt
  rw [List.length_cons, List.length_append, List.length_reverse, leL_length, bytesOf_length]
  omega
theorem size_nums3 (l : List Int) : (strOfNums l).size = l.length := strOfNums_size l
theorem build_end (l : List S36) (hl : l.length ≤ 140737488355328) (out : List Int) (ho : out.length < 140737488355328) : Ev (fun k => meta_Build.l0 k l out l (l.length : Nat) (l.length : Nat)) (fin_ l (some out)) := by
  refine Ev.step (f := fun k => (meta_Parse.f k (strOfNums out)).bind fun m => if m.2.2 = 0 then ((api_Block.f k l m.1).bind fun q => if q = true then some (strOfNums out, 0) else some (⟨#[]⟩, 60)) else some (⟨#[]⟩, 60)) (fun k => ?_) ?_
  · simp only [meta_Build.l0]
    rw [if_neg (by omega)]
  · refine Ev.bind (parse_ev (strOfNums out) (by rw [size_nums3]; omega)) ?_
    rw [show fin_ l (some out) = (if (parseF (strOfNums out)).2.2 = 0 then (if sameB l (parseF (strOfNums out)).1 = true then (strOfNums out, 0) else (⟨#[]⟩, 60)) else (⟨#[]⟩, 60)) from rfl]
    by_cases h0 : (parseF (strOfNums out)).2.2 = 0
    · rw [show (if (parseF (strOfNums out)).2.2 = 0 then (if sameB l (parseF (strOfNums out)).1 = true then (strOfNums out, (0 : Int)) else (⟨#[]⟩, 60)) else (⟨#[]⟩, 60)) = (if sameB l (parseF (strOfNums out)).1 = true then (strOfNums out, 0) else (⟨#[]⟩, 60)) from if_pos h0]
      refine Ev.congr (fun k => if_pos h0) ?_
      refine Ev.bind (block_ev l _ hl) ?_
      cases sameB l (parseF (strOfNums out)).1
      · exact Ev.now _
      · exact Ev.now _
    · rw [show (if (parseF (strOfNums out)).2.2 = 0 then (if sameB l (parseF (strOfNums out)).1 = true then (strOfNums out, (0 : Int)) else (⟨#[]⟩, 60)) else (⟨#[]⟩, 60)) = (⟨#[]⟩, 60) from if_neg h0]
      exact Ev.congr (f := fun _ => some (⟨#[]⟩, 60)) (fun k => if_neg h0) (Ev.now _)
theorem build_l0 (l : List S36) (hl : l.length ≤ 140737488355328) : ∀ (d i : Nat) (out : List Int), i + d = l.length → out.length + tot l d i < 140737488355328 →
    Ev (fun k => meta_Build.l0 k l out l (l.length : Nat) (i : Nat)) (fin_ l (bld l d i out))
  | 0, i, out, hi, ht => by
    obtain rfl : i = l.length := by omega
    exact build_end l hl out (by unfold tot at ht; omega)
  | d + 1, i, out, hi, ht => by
    unfold tot at ht
    unfold bld
    have ih := build_l0 l hl d (i + 1) (out ++ prt (rd_T36 l i) (decide (i + 1 = l.length))) (by omega) (by rw [List.length_append, prt_length]; omega)
    generalize hb : rd_T36 l i = b at ht ih
    have hlast : wrap64 ((l.length : Int) - 1) = (l.length : Int) - 1 := w64 _ (by omega) (by omega)
    have hnext : wrap64 ((i : Int) + 1) = ((i + 1 : Nat) : Int) := by rw [w64 _ (by omega) (by omega)]; rfl
    have key : ∀ k, meta_Build.l0 (k + 1) l out l (l.length : Nat) (i : Nat) = (meta_Check.f k b.f0 b.f1).bind fun z => if z = 0 then (if (i : Int) = (l.length : Int) - 1 then
        ((bytes_Be.f k (b.f1.size : Int) 3).bind fun e => if out.length < 140737488355328 then ((some (out ++ [Go.bits .or .u8 (b.f0 % 256) 128])).bind fun y => if y.length + e.1.size < 140737488355328 then ((some (y ++ bytesOf e.1)).bind fun z => if z.length + b.f1.size < 140737488355328 then meta_Build.l0 k l (z ++ bytesOf b.f1) l (l.length : Nat) ((i + 1 : Nat) : Int) else none) else none) else none)
        else ((bytes_Be.f k (b.f1.size : Int) 3).bind fun e => if out.length < 140737488355328 then ((some (out ++ [b.f0 % 256])).bind fun y => if y.length + e.1.size < 140737488355328 then ((some (y ++ bytesOf e.1)).bind fun z => if z.length + b.f1.size < 140737488355328 then meta_Build.l0 k l (z ++ bytesOf b.f1) l (l.length : Nat) ((i + 1 : Nat) : Int) else none) else none) else none)) else some (⟨#[]⟩, 60) := fun k => by
      simp only [meta_Build.l0]
      rw [if_pos (by omega), if_pos (by omega), if_pos (by omega), hb, hlast, hnext]
    refine Ev.step key (Ev.bind (check_ev _ _) ?_)
    by_cases h0 : checkF b.f0 b.f1 = 0
    · rw [show (if checkF b.f0 b.f1 = 0 then bld l d (i + 1) (out ++ prt b (decide (i + 1 = l.length))) else none) = bld l d (i + 1) (out ++ prt b (decide (i + 1 = l.length))) from if_pos h0]
      obtain ⟨ht0, ht1, hz⟩ := check_zero h0
      have hbe := Be.Be_ev (b.f1.size : Int) 3 (by omega)
      rw [be3 _ hz] at hbe
      have hlen3 : (strOfNums (leL 3 (b.f1.size : Int)).reverse).size = 3 := by rw [size_nums3, List.length_reverse, leL_length]
      refine Ev.congr (fun k => if_pos h0) ?_
      by_cases hi1 : i + 1 = l.length
      · have hx : (i : Int) = (l.length : Int) - 1 := by omega
        refine Ev.congr (fun k => if_pos hx) (Ev.bind hbe ?_)
        refine Ev.congr (fun k => ?_) ih
        rw [if_pos (by omega), Option.bind_some, if_pos (by rw [hlen3, List.length_append, List.length_singleton]; omega), Option.bind_some, if_pos (by rw [be3_bytes, List.length_append, List.length_append, List.length_singleton, List.length_reverse, leL_length]; omega), be3_bytes, or_128 _ ⟨ht0, ht1⟩]
        congr 1
        unfold prt hd
        rw [decide_eq_true hi1]
        simp
      · have hx : ¬ (i : Int) = (l.length : Int) - 1 := by omega
        refine Ev.congr (fun k => if_neg hx) (Ev.bind hbe ?_)
        refine Ev.congr (fun k => ?_) ih
        rw [if_pos (by omega), Option.bind_some, if_pos (by rw [hlen3, List.length_append, List.length_singleton]; omega), Option.bind_some, if_pos (by rw [be3_bytes, List.length_append, List.length_append, List.length_singleton, List.length_reverse, leL_length]; omega), be3_bytes, show b.f0 % 256 = b.f0 by omega]
        congr 1
        unfold prt hd
        rw [decide_eq_false hi1]
        simp
    · rw [show (if checkF b.f0 b.f1 = 0 then bld l d (i + 1) (out ++ prt b (decide (i + 1 = l.length))) else none) = none from if_neg h0]
      exact Ev.congr (f := fun _ => some (⟨#[]⟩, 60)) (fun k => if_neg h0) (Ev.now _)
theorem build_ev (l : List S36) (hl : l.length ≤ 140737488355328) (ht : tot l l.length 0 < 140737488355328) : Ev (fun k => meta_Build.f k l) (buildF l) :=
  build_l0 l hl l.length 0 [] (by omega) (by simpa using ht)
end Go.Proofs.Ytgihacaegmpggaa.Plain

/- Numbers in bytes (layer 02's plain laws, over this layer's printed functions): the reference. -/
namespace Go.Proofs.Ytgihacaegmpggaa.Be
open Go.RowKit Go.Proofs.Ytgihacaegmpggaa Go.Proofs.Ytgihacaegmpggaa.R Go.Proofs.YtgihacaegmpggaaW.PrintWords Go.Proofs.YtgihacaegmpggaaW.PrintLast Go.Proofs.YtgihacaegmpggaaW.PrintMore
set_option linter.unusedVariables false
set_option linter.unusedSimpArgs false

theorem fits_eq (n w : Int) (h63 : n < 9223372036854775808) : lacquerref02_fits.f n w = some (decide (1 ≤ w ∧ w ≤ 8 ∧ 0 ≤ n ∧ n < 2 ^ (8 * w.toNat))) := by
  by_cases h1 : 1 ≤ w
  · by_cases h2 : w ≤ 8
    · by_cases h3 : 0 ≤ n
      · have hw : w = 1 ∨ w = 2 ∨ w = 3 ∨ w = 4 ∨ w = 5 ∨ w = 6 ∨ w = 7 ∨ w = 8 := by omega
        rcases hw with rfl | rfl | rfl | rfl | rfl | rfl | rfl | rfl <;>
          simp [lacquerref02_fits.f, shr, wrap64, IntKind.wrap, IntKind.bits, IntKind.signed, h3] <;> first | omega | (rw [Bool.eq_iff_iff]; simp; omega)
      · simp [lacquerref02_fits.f, h1, h2, h3]
    · simp [lacquerref02_fits.f, h1, h2]
  · simp [lacquerref02_fits.f, h1]
theorem BeR_ok (n w : Int) (h63 : n < 9223372036854775808) (h : Valid n w) : lacquerref02_Be.f 12 n w = some (strOfNums (leL w.toNat n).reverse, 0) := by
  have hf := fits_eq n w h63
  rw [show decide (1 ≤ w ∧ w ≤ 8 ∧ 0 ≤ n ∧ n < 2 ^ (8 * w.toNat)) = true from decide_eq_true h] at hf
  obtain ⟨h1, h2, h3, h4⟩ := h
  have hw : w = 1 ∨ w = 2 ∨ w = 3 ∨ w = 4 ∨ w = 5 ∨ w = 6 ∨ w = 7 ∨ w = 8 := by omega
  rcases hw with rfl | rfl | rfl | rfl | rfl | rfl | rfl | rfl <;>
    simp at h4 <;>
    simp [lacquerref02_Be.f, lacquerref02_Be.l0, hf, wrap64, leL, and255, h3, h4, d2, d3, d4, d5, d6, d7]
theorem BeR_no (n w : Int) (h63 : n < 9223372036854775808) (h : ¬ Valid n w) : lacquerref02_Be.f 12 n w = some (⟨#[]⟩, 11) := by
  have hf := fits_eq n w h63
  rw [show decide (1 ≤ w ∧ w ≤ 8 ∧ 0 ≤ n ∧ n < 2 ^ (8 * w.toNat)) = false from decide_eq_false h] at hf
  simp [lacquerref02_Be.f, hf]
theorem BeR_ev (n w : Int) (h63 : n < 9223372036854775808) : Ev (fun k => lacquerref02_Be.f k n w) (beR n w) := by
  refine Ev.of (lacquerref02_Be.mono n w) (k := 12) ?_
  unfold beR
  split
  · rename_i h; exact BeR_ok n w h63 h
  · rename_i h; exact BeR_no n w h63 h
end Go.Proofs.Ytgihacaegmpggaa.Be

/- Printed by a program of ours (pp.sh), partly over contracts proved by hand. -/
namespace Go.Proofs.Ytgihacaegmpggaa.R
open Go.RowKit Go.Proofs.YtgihacaegmpggaaW.PrintWords Go.Proofs.YtgihacaegmpggaaW.PrintLast Go.Proofs.YtgihacaegmpggaaW.PrintMore
attribute [local go_sem] max2_int min2_int max_two min_two max_three min_three max_four min_four   -- for this text's walks alone
set_option linter.unusedVariables false
set_option linter.unusedSimpArgs false

/-! ### lacquerref13_Lay: function 38 -/
def lacquerref13_Lay.l0 : Nat → List (S36) → List ByteArray → Int → Option (List ByteArray)
  | 0, _, _, _ => none
  | k + 1, x0, x3, x4 => if x4 < (x0.length : Int) then (if 0 ≤ x4 then (if x4 = (wrap64 ((x0.length : Int) - 1)) then ((lacquerref02_Be.f k (((rd_T36 x0 x4).f1).size : Int) 3).bind fun bt313 => ((some (([(wrap64 ((Go.bits .and .i64 ((rd_T36 x0 x4).f0) 127) + 128)) % 256] : List Int) : List Int)).bind fun y315 => (if (strOfNums y315).size + bt313.1.size ≤ 9223372036854775807 then (if ((strOfNums y315) ++ bt313.1).size + ((rd_T36 x0 x4).f1).size ≤ 9223372036854775807 then (if x3.length < 8796093022208 then (lacquerref13_Lay.l0 k x0 (x3 ++ [((strOfNums y315) ++ bt313.1) ++ ((rd_T36 x0 x4).f1)]) (wrap64 (x4 + 1))) else (none)) else (none)) else (none)))) else ((lacquerref02_Be.f k (((rd_T36 x0 x4).f1).size : Int) 3).bind fun bt323 => ((some (([(Go.bits .and .i64 ((rd_T36 x0 x4).f0) 127) % 256] : List Int) : List Int)).bind fun y325 => (if (strOfNums y325).size + bt323.1.size ≤ 9223372036854775807 then (if ((strOfNums y325) ++ bt323.1).size + ((rd_T36 x0 x4).f1).size ≤ 9223372036854775807 then (if x3.length < 8796093022208 then (lacquerref13_Lay.l0 k x0 (x3 ++ [((strOfNums y325) ++ bt323.1) ++ ((rd_T36 x0 x4).f1)]) (wrap64 (x4 + 1))) else (none)) else (none)) else (none))))) else (none)) else (some x3)
def lacquerref13_Lay.f (k : Nat) (l0 : List (S36)) : Option (List ByteArray) := lacquerref13_Lay.l0 k l0 ([] : List ByteArray) 0
def lacquerref13_Lay.T9 : Bool × List (List Nat × List Nat) := (true, [([], []), ([], []), ([1], [1]), ([2], [2]), ([3], [3]), ([], []), ([4, 5], [4, 5]), ([], []), ([], []), ([7, 8], [7, 8]), ([9], [9]), ([10], [10]), ([6, 11], [6, 11]), ([12], [12]), ([0, 13], [0, 13]), ([14, 14, 0, 1, 2, 3, 4, 5, 6, 7, 8, 9, 10, 11, 12, 13, 14], [0, 14])])
def lacquerref13_Lay.B9 : List Nat := [0, 0, 2, 6, 14, 0, 62, 0, 0, 384, 896, 1920, 4094, 8190, 16383, 32767]
theorem lacquerref13_Lay.tab9 : rtab .any (opsOf Try.f38 9) = lacquerref13_Lay.T9 := by kernel_rfl
theorem lacquerref13_Lay.bits9 : waitsOk lacquerref13_Lay.T9.2 lacquerref13_Lay.B9 = true := by kernel_rfl
set_option maxHeartbeats 8000000 in
set_option maxRecDepth 100000 in
theorem lacquerref13_Lay.calls (k : Nat) (A0 : Option Addr) (c0 : Nat) (l0 : List (S36)) (r : List ByteArray) (w : World) (hr0 : Kd.C k36 w A0 l0.length l0) (hc0 : l0.length ≤ c0) (h : lacquerref13_Lay.f k l0 = some r) :
    Calls Try.prog 38 #[.slice A0 l0.length c0] w fun e w' => ∃ v0_ : Value, e = .returned (v0_) ∧ Kd.R Kd.string 9 w' w.heap.size (fun _ => True) v0_ r ∧ Below w.heap.size w w' := by
  have HR0 := Aside0.mk hr0
  have HC0 := Aside0.mk hc0
  clear hr0 hc0
  have HB := Aside0.mk (Below.refl w.heap.size w)
  have H : (lacquerref13_Lay.l0 k l0 ([] : List ByteArray) 0) = some r := h
  clear h
  have H' := Aside0.mk H
  clear H
  go_enter Try.func38, Try.ntmps38
  go_wp2
  go_loopg [3, 4] k (fun kq v3 v4 w' => ∃ (x3_1 : List ByteArray) (x4_1 : Int), v4 = .int .i64 x4_1 ∧ Aside0 (lacquerref13_Lay.l0 kq l0 x3_1 x4_1 = some r) ∧ Aside0 (kq ≤ k) ∧ Aside0 (Kd.R Kd.string 9 w' w.heap.size (fun _ => True) v3 x3_1) ∧ Aside0 (Below w.heap.size w w'))
  case atStart => exact ⟨(([] : List ByteArray)), (0), (by first | rfl | (simp; done) | (simp [*]; done)), H', ⟨Nat.le_refl _⟩, ⟨by first | exact Kd.R_nil _ _ _ _ _ | exact Kd.N_nil _ _ _ _ _ | exact Kd.V_nil _ _ _ _ _ | exact Kd.Q_nil _ _ _ _ _ | exact Kd.S_nil _ _ _ _ _⟩, ⟨by repeat (first | (with_reducible first | exact HB.out | apply below_alloc | apply pw_below_drewN | apply below_drew1) | exact HB.out)⟩⟩
  case round =>
    clear H'
    obtain ⟨x3_1, x4_1, rfl, HA, HK1, HO_3, HB⟩ := hrel
    cases gk with
    | zero => exact absurd HA.out (by simp [lacquerref13_Lay.l0])
    | succ k1 =>
      have H := HA.out
      clear HA
      simp only [lacquerref13_Lay.l0] at H
      by_cases c2 : x4_1 < (l0.length : Int)
      · rw [if_pos c2] at H
        have c2b0 : decide (x4_1 < (l0.length : Int)) = true := decide_eq_true c2
        (try simp only [ByteArray.size_append] at c2b0)
        clear c2
        by_cases c3 : 0 ≤ x4_1
        · rw [if_pos c3] at H
          have c3b0 : decide (0 ≤ x4_1) = true := decide_eq_true c3
          (try simp only [ByteArray.size_append] at c3b0)
          clear c3
          by_cases c4 : x4_1 = (wrap64 ((l0.length : Int) - 1))
          · rw [if_pos c4] at H
            have c4b0 : (x4_1 == (wrap64 ((l0.length : Int) - 1))) = true := beq_iff_eq.mpr c4
            (try simp only [ByteArray.size_append] at c4b0)
            have c4b1 : (x4_1 != (wrap64 ((l0.length : Int) - 1))) = false := bne_eq_false_iff_eq.mpr c4
            (try simp only [ByteArray.size_append] at c4b1)
            clear c4
            replace H := Option.bind_eq_some_iff.mp H
            obtain ⟨⟨t313, t314⟩, A50, H⟩ := H
            replace H : ((some (([(wrap64 ((Go.bits .and .i64 ((rd_T36 l0 x4_1).f0) 127) + 128)) % 256] : List Int) : List Int)).bind fun y315 => (if (strOfNums y315).size + t313.size ≤ 9223372036854775807 then (if ((strOfNums y315) ++ t313).size + ((rd_T36 l0 x4_1).f1).size ≤ 9223372036854775807 then (if x3_1.length < 8796093022208 then (lacquerref13_Lay.l0 k1 l0 (x3_1 ++ [((strOfNums y315) ++ t313) ++ ((rd_T36 l0 x4_1).f1)]) (wrap64 (x4_1 + 1))) else (none)) else (none)) else (none))) = some r := H
            have A5 := Aside0.mk A50
            clear A50
            obtain ⟨y315, hy315⟩ : ∃ y_ : List Int, y_ = (([(wrap64 ((Go.bits .and .i64 ((rd_T36 l0 x4_1).f0) 127) + 128)) % 256] : List Int)) := ⟨_, rfl⟩
            replace H : (if (strOfNums y315).size + t313.size ≤ 9223372036854775807 then (if ((strOfNums y315) ++ t313).size + ((rd_T36 l0 x4_1).f1).size ≤ 9223372036854775807 then (if x3_1.length < 8796093022208 then (lacquerref13_Lay.l0 k1 l0 (x3_1 ++ [((strOfNums y315) ++ t313) ++ ((rd_T36 l0 x4_1).f1)]) (wrap64 (x4_1 + 1))) else (none)) else (none)) else (none)) = some r := by first | (rw [hy315]; with_reducible exact H) | (have H2_ := (Option.bind_some _ _).symm.trans H; rw [hy315]; with_reducible exact H2_) | (have H2_ := (Option.bind_some _ _).symm.trans H; with_reducible exact H2_) | with_reducible exact H | (rw [hy315]; exact H) | exact H
            have Ny315 := Aside0.mk hy315
            clear hy315
            by_cases c6 : (strOfNums y315).size + t313.size ≤ 9223372036854775807
            · rw [if_pos c6] at H
              have c6b0 := eq_true c6
              (try simp only [ByteArray.size_append] at c6b0)
              have c6b1 : decide ((strOfNums y315).size + t313.size ≤ 9223372036854775807) = true := decide_eq_true c6
              (try simp only [ByteArray.size_append] at c6b1)
              try have c6b2 : (9223372036854775807 < (strOfNums y315).size + t313.size) = False := eq_false (Nat.not_lt.2 c6)
              (try simp only [ByteArray.size_append] at c6b2)
              by_cases c7 : ((strOfNums y315) ++ t313).size + ((rd_T36 l0 x4_1).f1).size ≤ 9223372036854775807
              · rw [if_pos c7] at H
                have c7b0 := eq_true c7
                (try simp only [ByteArray.size_append] at c7b0)
                have c7b1 : decide (((strOfNums y315) ++ t313).size + ((rd_T36 l0 x4_1).f1).size ≤ 9223372036854775807) = true := decide_eq_true c7
                (try simp only [ByteArray.size_append] at c7b1)
                try have c7b2 : (9223372036854775807 < ((strOfNums y315) ++ t313).size + ((rd_T36 l0 x4_1).f1).size) = False := eq_false (Nat.not_lt.2 c7)
                (try simp only [ByteArray.size_append] at c7b2)
                by_cases c8 : x3_1.length < 8796093022208
                · rw [if_pos c8] at H
                  have LMc8 := Aside0.mk c8
                  clear c8
                  obtain ⟨y319, hy319⟩ : ∃ y_ : List ByteArray, y_ = (x3_1 ++ [((strOfNums y315) ++ t313) ++ ((rd_T36 l0 x4_1).f1)]) := ⟨_, rfl⟩
                  replace H : (lacquerref13_Lay.l0 k1 l0 y319 (wrap64 (x4_1 + 1))) = some r := by first | (rw [hy319]; with_reducible exact H) | (have H2_ := (Option.bind_some _ _).symm.trans H; rw [hy319]; with_reducible exact H2_) | (have H2_ := (Option.bind_some _ _).symm.trans H; with_reducible exact H2_) | with_reducible exact H | (rw [hy319]; exact H) | exact H
                  have Ny319 := Aside0.mk hy319
                  clear hy319
                  have H' := Aside0.mk H
                  clear H
                  have p311 : 0 ≤ (x4_1 : Int) := of_decide_eq_true (by first | (with_reducible assumption) | assumption)
                  have q311 : x4_1 < (l0.length : Int) := of_decide_eq_true (by first | (with_reducible assumption) | assumption)
                  obtain ⟨ad311, e311, hx311_0, hx311_1⟩ := at_T36 HR0.out x4_1 p311 q311
                  cases e311
                  replace hx311_0 := (HB.out.cell (World.block_lt_of_cell? w _ hx311_0)).trans hx311_0
                  replace hx311_1 := (HB.out.cell (World.block_lt_of_cell? w _ hx311_1)).trans hx311_1
                  replace p311 := eq_true p311
                  replace q311 := eq_true q311
                  have p312 : 0 ≤ (x4_1 : Int) := of_decide_eq_true (by first | (with_reducible assumption) | assumption)
                  have q312 : x4_1 < (l0.length : Int) := of_decide_eq_true (by first | (with_reducible assumption) | assumption)
                  obtain ⟨ad312, e312, hx312_0, hx312_1⟩ := at_T36 HR0.out x4_1 p312 q312
                  obtain rfl : ad311 = ad312 := (by injection e312)
                  replace hx312_0 := (HB.out.cell (World.block_lt_of_cell? w _ hx312_0)).trans hx312_0
                  replace hx312_1 := (HB.out.cell (World.block_lt_of_cell? w _ hx312_1)).trans hx312_1
                  replace p312 := eq_true p312
                  replace q312 := eq_true q312
                  try go_wp2_with (first | ((with_reducible refine gate_callee (f := 49) rfl ?_); refine goesL_ (some 34) rfl rfl Try.func49 (by kernel_rfl) rfl #[.int .i64 (((rd_T36 l0 x4_1).f1).size : Int), .int .i64 3] rfl (by (try simp only [List.map_toArray, List.map_cons, List.map_nil]); first | done | rfl | (simp only [List.length_drop, List.length_take]; rfl)) ?_; (with_reducible refine (lacquerref02_Be.calls k1 (((rd_T36 l0 x4_1).f1).size : Int) 3 t313 t314 _ A5.out).mono ?_); rintro e w9 ⟨rfl, hb⟩; refine ⟨_, rfl, ?_⟩; have n0_ := Aside0.mk (Kd.R_below (by (with_reducible repeat (first | apply Kd.R_alloc | apply Kd.R_drewN | apply Kd.R_drew)); exact HO_3.out) hb); have n1_ := Aside0.mk (below_step (by repeat (first | (with_reducible first | exact HB.out | apply below_alloc | apply pw_below_drewN | apply below_drew1) | exact HB.out)) hb); clear HO_3; clear HB; have HO_3 := n0_; have HB := n1_; clear n0_ n1_; (try clear hb); (try clear hb2); (try clear hk); (try clear hi)))
                  have n0_ := Aside0.mk (Kd.R_drew HO_3.out)
                  have n1_ := Aside0.mk (below_drew1 HB.out)
                  clear HO_3
                  clear HB
                  have HO_3 := n0_
                  have HB := n1_
                  clear n0_ n1_
                  have p318 : 0 ≤ (x4_1 : Int) := of_decide_eq_true (by first | (with_reducible assumption) | assumption)
                  have q318 : x4_1 < (l0.length : Int) := of_decide_eq_true (by first | (with_reducible assumption) | assumption)
                  obtain ⟨ad318, e318, hx318_0, hx318_1⟩ := at_T36 HR0.out x4_1 p318 q318
                  have hw318_1 := hx318_1
                  have hw318_0 := hx318_0
                  obtain rfl : ad311 = ad318 := (by injection e318)
                  replace hx318_0 := (HB.out.cell (World.block_lt_of_cell? w _ hx318_0)).trans hx318_0
                  replace hx318_1 := (HB.out.cell (World.block_lt_of_cell? w _ hx318_1)).trans hx318_1
                  replace p318 := eq_true p318
                  replace q318 := eq_true q318
                  refine start_ (n := 16) (S := fun w' => w'.cell? (ad311.add ((x4_1).toNat * 2)) = some (.int .i64 ((rd_T36 l0 x4_1).f0)) ∧ w'.cell? ⟨(ad311.add ((x4_1).toNat * 2)).block, (ad311.add ((x4_1).toNat * 2)).off + 1, none⟩ = some (.string ((rd_T36 l0 x4_1).f1))) (ds := []) #[false, false, false, false, false, false, false, false, false, false, false, false, false, false, false, false] (by kernel_rfl) rfl rfl ⟨((HB.out.cell (World.block_lt_of_cell? w _ hw318_0)).trans hw318_0), ((HB.out.cell (World.block_lt_of_cell? w _ hw318_1)).trans hw318_1)⟩ (fun hHeld => ?_); refine with_tabW lacquerref13_Lay.tab9 lacquerref13_Lay.bits9 (fun HT_ HW_ => ?_)
                  generalize w9.drew = w10 at HO_3 HB hx318_0 hx318_1 hHeld ⊢
                  refine pure_ (i := 0) (N := some 37) (v := ?_) (a' := ?_) #[true, false, false, false, false, false, false, false, false, false, false, false, false, false, false, false] rfl rfl (any_of HT_.out (by kernel_rfl)) (fun _ _ _ h => h) (Or.inl ⟨by rfl, ?_⟩) ?_ ?_
                  rotate_left
                  · intro w'
                    go_simp
                    with_reducible rfl
                  rotate_left
                  · simp only [Act.put, List.setIfInBounds_toArray, List.set_cons_zero, List.set_cons_succ, i64_w, i32_w]
                    rfl
                  refine pure_ (i := 1) (N := some 38) (v := ?_) (a' := ?_) #[true, true, false, false, false, false, false, false, false, false, false, false, false, false, false, false] rfl rfl (any_of HT_.out (by kernel_rfl)) (fun _ _ _ h => h) (Or.inl ⟨by rfl, ?_⟩) ?_ ?_
                  rotate_left
                  · intro w'
                    go_simp
                    with_reducible rfl
                  rotate_left
                  · simp only [Act.put, List.setIfInBounds_toArray, List.set_cons_zero, List.set_cons_succ, i64_w, i32_w]
                    rfl
                  refine pure_ (i := 2) (N := some 39) (v := ?_) (a' := ?_) #[true, true, true, false, false, false, false, false, false, false, false, false, false, false, false, false] rfl rfl (any_of HT_.out (by kernel_rfl)) (fun _ _ _ h => h) (Or.inl ⟨by rfl, ?_⟩) ?_ ?_
                  rotate_left
                  · intro w'
                    go_simp
                    with_reducible rfl
                  rotate_left
                  · simp only [Act.put, List.setIfInBounds_toArray, List.set_cons_zero, List.set_cons_succ, i64_w, i32_w]
                    rfl
                  refine pure_ (i := 5) (N := some 42) (v := ?_) (a' := ?_) #[true, true, true, false, false, true, false, false, false, false, false, false, false, false, false, false] rfl rfl (any_of HT_.out (by kernel_rfl)) (fun _ _ _ h => h) (Or.inl ⟨by rfl, ?_⟩) ?_ ?_
                  rotate_left
                  · intro w'
                    go_simp
                    with_reducible rfl
                  rotate_left
                  · simp only [Act.put, List.setIfInBounds_toArray, List.set_cons_zero, List.set_cons_succ, i64_w, i32_w]
                    rfl
                  refine pure_ (i := 7) (N := some 44) (v := ?_) (a' := ?_) #[true, true, true, false, false, true, false, true, false, false, false, false, false, false, false, false] rfl rfl (any_of HT_.out (by kernel_rfl)) (fun _ _ _ h => h) (Or.inl ⟨by rfl, ?_⟩) ?_ ?_
                  rotate_left
                  · intro w'
                    go_simp
                    with_reducible rfl
                  rotate_left
                  · simp only [Act.put, List.setIfInBounds_toArray, List.set_cons_zero, List.set_cons_succ, i64_w, i32_w]
                    rfl
                  refine pure_ (i := 8) (N := some 45) (v := ?_) (a' := ?_) #[true, true, true, false, false, true, false, true, true, false, false, false, false, false, false, false] rfl rfl (any_of HT_.out (by kernel_rfl)) (fun _ _ _ h => h) (Or.inl ⟨by rfl, ?_⟩) ?_ ?_
                  rotate_left
                  · intro w'
                    go_simp
                    with_reducible rfl
                  rotate_left
                  · simp only [Act.put, List.setIfInBounds_toArray, List.set_cons_zero, List.set_cons_succ, i64_w, i32_w]
                    rfl
                  refine pure_ (i := 9) (N := some 46) (v := ?_) (a' := ?_) #[true, true, true, false, false, true, false, true, true, true, false, false, false, false, false, false] rfl rfl (any_of HT_.out (by kernel_rfl)) (fun _ _ _ h => h) (Or.inl ⟨by rfl, ?_⟩) ?_ ?_
                  rotate_left
                  · intro w'
                    go_simp
                    with_reducible rfl
                  rotate_left
                  · simp only [Act.put, List.setIfInBounds_toArray, List.set_cons_zero, List.set_cons_succ, i64_w, i32_w]
                    rfl
                  refine pure_ (i := 10) (N := some 47) (v := ?_) (a' := ?_) #[true, true, true, false, false, true, false, true, true, true, true, false, false, false, false, false] rfl rfl (any_of HT_.out (by kernel_rfl)) (fun _ _ _ h => h) (Or.inl ⟨by rfl, ?_⟩) ?_ ?_
                  rotate_left
                  · intro w'
                    go_simp
                    with_reducible rfl
                  rotate_left
                  · simp only [Act.put, List.setIfInBounds_toArray, List.set_cons_zero, List.set_cons_succ, i64_w, i32_w]
                    rfl
                  refine take_ (i := 11) (N := some 48) (v := ?_) (a' := ?_) #[true, true, true, false, false, true, false, true, true, true, true, true, false, false, false, false] rfl rfl (take_ofW HT_.out HW_.out (by kernel_rfl)) (fun _ _ _ h => h) (Or.inl ⟨by rfl, ?_⟩) hHeld ?_ ?_
                  rotate_left
                  · rintro w' ⟨s0, s1⟩
                    go_simp
                    with_reducible rfl
                  rotate_left
                  · simp only [Act.put, List.setIfInBounds_toArray, List.set_cons_zero, List.set_cons_succ, i64_w, i32_w]
                    rfl
                  refine one_ (i := 3) (N := some 40) #[true, true, true, true, false, true, false, true, true, true, true, true, false, false, false, false] rfl rfl (one_of HT_.out (by kernel_rfl)) (by decide) (fun K hK => ?_)
                  refine Kd.R_lit_step (Kd.int .u8) _ 5 ?hg (N := 40) ?hd (xs := ([(wrap64 ((Go.bits .and .i64 ((rd_T36 l0 x4_1).f0) 127) + 128)) % 256] : List Int)) (inner := [.int .u8 ((wrap64 ((Go.bits .and .i64 ((rd_T36 l0 x4_1).f0) 127) + 128)) % 256)]) (ok := fun _ => True) (okp := fun _ => True) ?hr ?hp (fun _ hk => hk) trivial (Below.refl _ _) (Nat.le_refl _) (by simp) ?_; (case hd => rfl); (case hg => rfl); (case hr => first | (go_simp; done) | (go_simp; rfl)); (case hp => exact (Reps.one (show Kd.M (Kd.int .u8) _ _ _ ((wrap64 ((Go.bits .and .i64 ((rd_T36 l0 x4_1).f0) 127) + 128)) % 256) [.int .u8 ((wrap64 ((Go.bits .and .i64 ((rd_T36 l0 x4_1).f0) 127) + 128)) % 256)] from rfl) (Reps.none _ _)))
                  intro v316 w11 ho12 hb hg_ hnew_
                  clear hg_ hnew_
                  (first | rw [← Ny315.out] at ho12 | (simp only [Int.reduceToNat] at ho12; rw [← Ny315.out] at ho12))
                  have n0_ := Aside0.mk (Kd.R_below (by (with_reducible repeat (first | apply Kd.R_alloc | apply Kd.R_drewN | apply Kd.R_drew)); exact HO_3.out) hb)
                  have n1_ := Aside0.mk (Kd.R_lower ho12 (below_size (by repeat (first | (with_reducible first | exact HB.out | apply below_alloc | apply pw_below_drewN | apply below_drew1) | exact HB.out))))
                  have n2_ := Aside0.mk (below_step (by repeat (first | (with_reducible first | exact HB.out | apply below_alloc | apply pw_below_drewN | apply below_drew1) | exact HB.out)) hb)
                  clear HO_3
                  clear HB
                  have HO_3 := n0_
                  have HO317 := n1_
                  have HB := n2_
                  clear n0_ n1_ n2_
                  clear hb ho12
                  refine hK.out _ _ ⟨((HB.out.cell (World.block_lt_of_cell? w _ hw318_0)).trans hw318_0), ((HB.out.cell (World.block_lt_of_cell? w _ hw318_1)).trans hw318_1)⟩ (fun hHeld => ?_)
                  clear hK K
                  refine norm_ (a' := ?_) ?_ ?_
                  rotate_left
                  · show Act.put _ (some 40) _ = _
                    simp only [Act.put, List.setIfInBounds_toArray, List.set_cons_zero, List.set_cons_succ, i64_w, i32_w]
                    rfl
                  refine one_ (i := 4) (N := some 41) #[true, true, true, true, true, true, false, true, true, true, true, true, false, false, false, false] rfl rfl (one_of HT_.out (by kernel_rfl)) (by decide) (fun K hK => ?_)
                  have hcv13 := own_string (P := Try.prog) Try.underlying68 Try.underlying5 Try.underlying9 (Kd.own_of_R HO317.out)
                  refine value_ (w1 := ?_) (v := ?_) (by rfl) rfl ?_ ?_
                  rotate_left 2
                  · go_simp
                    constructor
                    · rfl
                    · rfl
                  clear hcv13
                  refine hK.out _ _ ⟨((HB.out.cell (World.block_lt_of_cell? w _ hw318_0)).trans hw318_0), ((HB.out.cell (World.block_lt_of_cell? w _ hw318_1)).trans hw318_1)⟩ (fun hHeld => ?_)
                  clear hK K
                  refine norm_ (a' := ?_) ?_ ?_
                  rotate_left
                  · show Act.put _ (some 41) _ = _
                    simp only [Act.put, List.setIfInBounds_toArray, List.set_cons_zero, List.set_cons_succ, i64_w, i32_w]
                    rfl
                  refine pure_ (i := 6) (N := some 43) (v := ?_) (a' := ?_) #[true, true, true, true, true, true, true, true, true, true, true, true, false, false, false, false] rfl rfl (any_of HT_.out (by kernel_rfl)) (fun _ _ _ h => h) (Or.inl ⟨by rfl, ?_⟩) ?_ ?_
                  rotate_left
                  · intro w'
                    go_simp
                    with_reducible rfl
                  rotate_left
                  · simp only [Act.put, List.setIfInBounds_toArray, List.set_cons_zero, List.set_cons_succ, i64_w, i32_w]
                    rfl
                  refine pure_ (i := 12) (N := some 49) (v := ?_) (a' := ?_) #[true, true, true, true, true, true, true, true, true, true, true, true, true, false, false, false] rfl rfl (any_of HT_.out (by kernel_rfl)) (fun _ _ _ h => h) (Or.inl ⟨by rfl, ?_⟩) ?_ ?_
                  rotate_left
                  · intro w'
                    go_simp
                    with_reducible rfl
                  rotate_left
                  · simp only [Act.put, List.setIfInBounds_toArray, List.set_cons_zero, List.set_cons_succ, i64_w, i32_w]
                    rfl
                  refine one_ (i := 13) (N := some 50) #[true, true, true, true, true, true, true, true, true, true, true, true, true, true, false, false] rfl rfl (one_of HT_.out (by kernel_rfl)) (by decide) (fun K hK => ?_)
                  refine value_ (w1 := ?_) (v := ?_) (by rfl) rfl ?_ ?_
                  rotate_left 2
                  · go_simp
                    constructor
                    · rfl
                    · rfl
                  refine hK.out _ _ ⟨(World.cell?_alloc_lt _ _ _ (World.block_lt_of_cell? _ _ (((HB.out.cell (World.block_lt_of_cell? w _ hw318_0)).trans hw318_0)))).trans (((HB.out.cell (World.block_lt_of_cell? w _ hw318_0)).trans hw318_0)), (World.cell?_alloc_lt _ _ _ (World.block_lt_of_cell? _ _ (((HB.out.cell (World.block_lt_of_cell? w _ hw318_1)).trans hw318_1)))).trans (((HB.out.cell (World.block_lt_of_cell? w _ hw318_1)).trans hw318_1))⟩ (fun hHeld => ?_)
                  clear hK K
                  refine norm_ (a' := ?_) ?_ ?_
                  rotate_left
                  · show Act.put _ (some 50) _ = _
                    simp only [Act.put, List.setIfInBounds_toArray, List.set_cons_zero, List.set_cons_succ, i64_w, i32_w]
                    rfl
                  refine one_ (i := 14) (N := some 51) #[true, true, true, true, true, true, true, true, true, true, true, true, true, true, true, false] rfl rfl (one_of HT_.out (by kernel_rfl)) (by decide) (fun K hK => ?_)
                  refine Kd.R_append_step Kd.string (w0 := w) w.heap.size (by rfl) (.tmp 37) (.tmp 50) 75 9 (.string ⟨#[]⟩) 16 rfl Try.underlying75 info9 rfl (by decide) (by omega) u3 x3_1 (((strOfNums y315) ++ t313) ++ ((rd_T36 l0 x4_1).f1)) [.string (((strOfNums y315) ++ t313) ++ ((rd_T36 l0 x4_1).f1))] (fun _ => True) (fun _ => False) rfl rfl ?aP (fun _ hk => hk.elim) ?aF ?aO ?aB ?aS ?aL ?_
                  (case aP => exact rfl)
                  (case aB => exact (by repeat (first | (with_reducible first | exact HB.out | apply below_alloc | apply pw_below_drewN | apply below_drew1) | exact HB.out)))
                  (case aF => exact (fun _ _ => trivial))
                  (case aO => exact (by (with_reducible repeat (first | apply Kd.R_alloc | apply Kd.R_drewN | apply Kd.R_drew)); exact HO_3.out))
                  (case aS => exact (below_size (by repeat (first | (with_reducible first | exact HB.out | apply below_alloc | apply pw_below_drewN | apply below_drew1) | exact HB.out))))
                  (case aL => have := LMc8.out; omega)
                  intro v320 w14 ho hb hg hat
                  rw [← Ny319.out] at ho
                  have n0_ := Aside0.mk (Kd.R_over' (by (with_reducible repeat (first | apply Kd.R_alloc | apply Kd.R_drewN | apply Kd.R_drew)); exact HO317.out) (Kd.R_typed (by (with_reducible repeat (first | apply Kd.R_alloc | apply Kd.R_drewN | apply Kd.R_drew)); exact HO_3.out)) (by decide) hg)
                  have n1_ := Aside0.mk (hb)
                  have n2_ := Aside0.mk (ho)
                  clear HO317
                  clear HB
                  clear HO_3
                  have HO317 := n0_
                  have HB := n1_
                  have HO321 := n2_
                  clear n0_ n1_ n2_
                  clear ho hb hg hat
                  refine hK.out _ _ ⟨((HB.out.cell (World.block_lt_of_cell? w _ hw318_0)).trans hw318_0), ((HB.out.cell (World.block_lt_of_cell? w _ hw318_1)).trans hw318_1)⟩ (fun hHeld => ?_)
                  clear hK K
                  refine norm_ (a' := ?_) ?_ ?_
                  rotate_left
                  · show Act.put _ (some 51) _ = _
                    simp only [Act.put, List.setIfInBounds_toArray, List.set_cons_zero, List.set_cons_succ, i64_w, i32_w]
                    rfl
                  refine pure_ (i := 15) (N := some 3) (v := ?_) (a' := ?_) #[true, true, true, true, true, true, true, true, true, true, true, true, true, true, true, true] rfl rfl (any_of HT_.out (by kernel_rfl)) (fun _ _ _ h => h) (Or.inl ⟨by rfl, ?_⟩) ?_ ?_
                  rotate_left
                  · intro w'
                    go_simp
                    with_reducible rfl
                  rotate_left
                  · simp only [Act.put, List.setIfInBounds_toArray, List.set_cons_zero, List.set_cons_succ, i64_w, i32_w]
                    rfl
                  refine done_ (done_of HT_.out (by kernel_rfl)) ?_
                  try go_wp2
                  go_roundg k1
                  case measure => have := HK1.out; omega
                  case rel => exact ⟨(y319), (wrap64 (x4_1 + 1)), (by first | rfl | (simp; done) | (simp [*]; done)), H', ⟨by have := HK1.out; omega⟩, ⟨by (with_reducible repeat (first | apply Kd.R_alloc | apply Kd.R_drewN | apply Kd.R_drew)); exact HO321.out⟩, ⟨by repeat (first | (with_reducible first | exact HB.out | apply below_alloc | apply pw_below_drewN | apply below_drew1) | exact HB.out)⟩⟩
                · rw [if_neg c8] at H
                  exact absurd H (by simp)
              · rw [if_neg c7] at H
                exact absurd H (by simp)
            · rw [if_neg c6] at H
              exact absurd H (by simp)
          · rw [if_neg c4] at H
            have c4b0 : (x4_1 == (wrap64 ((l0.length : Int) - 1))) = false := beq_eq_false_iff_ne.mpr c4
            (try simp only [ByteArray.size_append] at c4b0)
            have c4b1 : (x4_1 != (wrap64 ((l0.length : Int) - 1))) = true := bne_iff_ne.mpr c4
            (try simp only [ByteArray.size_append] at c4b1)
            replace H := Option.bind_eq_some_iff.mp H
            obtain ⟨⟨t323, t324⟩, A150, H⟩ := H
            replace H : ((some (([(Go.bits .and .i64 ((rd_T36 l0 x4_1).f0) 127) % 256] : List Int) : List Int)).bind fun y325 => (if (strOfNums y325).size + t323.size ≤ 9223372036854775807 then (if ((strOfNums y325) ++ t323).size + ((rd_T36 l0 x4_1).f1).size ≤ 9223372036854775807 then (if x3_1.length < 8796093022208 then (lacquerref13_Lay.l0 k1 l0 (x3_1 ++ [((strOfNums y325) ++ t323) ++ ((rd_T36 l0 x4_1).f1)]) (wrap64 (x4_1 + 1))) else (none)) else (none)) else (none))) = some r := H
            have A15 := Aside0.mk A150
            clear A150
            obtain ⟨y325, hy325⟩ : ∃ y_ : List Int, y_ = (([(Go.bits .and .i64 ((rd_T36 l0 x4_1).f0) 127) % 256] : List Int)) := ⟨_, rfl⟩
            replace H : (if (strOfNums y325).size + t323.size ≤ 9223372036854775807 then (if ((strOfNums y325) ++ t323).size + ((rd_T36 l0 x4_1).f1).size ≤ 9223372036854775807 then (if x3_1.length < 8796093022208 then (lacquerref13_Lay.l0 k1 l0 (x3_1 ++ [((strOfNums y325) ++ t323) ++ ((rd_T36 l0 x4_1).f1)]) (wrap64 (x4_1 + 1))) else (none)) else (none)) else (none)) = some r := by first | (rw [hy325]; with_reducible exact H) | (have H2_ := (Option.bind_some _ _).symm.trans H; rw [hy325]; with_reducible exact H2_) | (have H2_ := (Option.bind_some _ _).symm.trans H; with_reducible exact H2_) | with_reducible exact H | (rw [hy325]; exact H) | exact H
            have Ny325 := Aside0.mk hy325
            clear hy325
            by_cases c16 : (strOfNums y325).size + t323.size ≤ 9223372036854775807
            · rw [if_pos c16] at H
              have c16b0 := eq_true c16
              (try simp only [ByteArray.size_append] at c16b0)
              have c16b1 : decide ((strOfNums y325).size + t323.size ≤ 9223372036854775807) = true := decide_eq_true c16
              (try simp only [ByteArray.size_append] at c16b1)
              try have c16b2 : (9223372036854775807 < (strOfNums y325).size + t323.size) = False := eq_false (Nat.not_lt.2 c16)
              (try simp only [ByteArray.size_append] at c16b2)
              by_cases c17 : ((strOfNums y325) ++ t323).size + ((rd_T36 l0 x4_1).f1).size ≤ 9223372036854775807
              · rw [if_pos c17] at H
                have c17b0 := eq_true c17
                (try simp only [ByteArray.size_append] at c17b0)
                have c17b1 : decide (((strOfNums y325) ++ t323).size + ((rd_T36 l0 x4_1).f1).size ≤ 9223372036854775807) = true := decide_eq_true c17
                (try simp only [ByteArray.size_append] at c17b1)
                try have c17b2 : (9223372036854775807 < ((strOfNums y325) ++ t323).size + ((rd_T36 l0 x4_1).f1).size) = False := eq_false (Nat.not_lt.2 c17)
                (try simp only [ByteArray.size_append] at c17b2)
                by_cases c18 : x3_1.length < 8796093022208
                · rw [if_pos c18] at H
                  have LMc18 := Aside0.mk c18
                  clear c18
                  obtain ⟨y329, hy329⟩ : ∃ y_ : List ByteArray, y_ = (x3_1 ++ [((strOfNums y325) ++ t323) ++ ((rd_T36 l0 x4_1).f1)]) := ⟨_, rfl⟩
                  replace H : (lacquerref13_Lay.l0 k1 l0 y329 (wrap64 (x4_1 + 1))) = some r := by first | (rw [hy329]; with_reducible exact H) | (have H2_ := (Option.bind_some _ _).symm.trans H; rw [hy329]; with_reducible exact H2_) | (have H2_ := (Option.bind_some _ _).symm.trans H; with_reducible exact H2_) | with_reducible exact H | (rw [hy329]; exact H) | exact H
                  have Ny329 := Aside0.mk hy329
                  clear hy329
                  have H' := Aside0.mk H
                  clear H
                  have p311 : 0 ≤ (x4_1 : Int) := of_decide_eq_true (by first | (with_reducible assumption) | assumption)
                  have q311 : x4_1 < (l0.length : Int) := of_decide_eq_true (by first | (with_reducible assumption) | assumption)
                  obtain ⟨ad311, e311, hx311_0, hx311_1⟩ := at_T36 HR0.out x4_1 p311 q311
                  cases e311
                  replace hx311_0 := (HB.out.cell (World.block_lt_of_cell? w _ hx311_0)).trans hx311_0
                  replace hx311_1 := (HB.out.cell (World.block_lt_of_cell? w _ hx311_1)).trans hx311_1
                  replace p311 := eq_true p311
                  replace q311 := eq_true q311
                  have p322 : 0 ≤ (x4_1 : Int) := of_decide_eq_true (by first | (with_reducible assumption) | assumption)
                  have q322 : x4_1 < (l0.length : Int) := of_decide_eq_true (by first | (with_reducible assumption) | assumption)
                  obtain ⟨ad322, e322, hx322_0, hx322_1⟩ := at_T36 HR0.out x4_1 p322 q322
                  obtain rfl : ad311 = ad322 := (by injection e322)
                  replace hx322_0 := (HB.out.cell (World.block_lt_of_cell? w _ hx322_0)).trans hx322_0
                  replace hx322_1 := (HB.out.cell (World.block_lt_of_cell? w _ hx322_1)).trans hx322_1
                  replace p322 := eq_true p322
                  replace q322 := eq_true q322
                  try go_wp2_with (first | ((with_reducible refine gate_callee (f := 49) rfl ?_); refine goesL_ (some 34) rfl rfl Try.func49 (by kernel_rfl) rfl #[.int .i64 (((rd_T36 l0 x4_1).f1).size : Int), .int .i64 3] rfl (by (try simp only [List.map_toArray, List.map_cons, List.map_nil]); first | done | rfl | (simp only [List.length_drop, List.length_take]; rfl)) ?_; (with_reducible refine (lacquerref02_Be.calls k1 (((rd_T36 l0 x4_1).f1).size : Int) 3 t323 t324 _ A15.out).mono ?_); rintro e w19 ⟨rfl, hb⟩; refine ⟨_, rfl, ?_⟩; have n0_ := Aside0.mk (Kd.R_below (by (with_reducible repeat (first | apply Kd.R_alloc | apply Kd.R_drewN | apply Kd.R_drew)); exact HO_3.out) hb); have n1_ := Aside0.mk (below_step (by repeat (first | (with_reducible first | exact HB.out | apply below_alloc | apply pw_below_drewN | apply below_drew1) | exact HB.out)) hb); clear HO_3; clear HB; have HO_3 := n0_; have HB := n1_; clear n0_ n1_; (try clear hb); (try clear hb2); (try clear hk); (try clear hi)))
                  have n0_ := Aside0.mk (Kd.R_drew HO_3.out)
                  have n1_ := Aside0.mk (below_drew1 HB.out)
                  clear HO_3
                  clear HB
                  have HO_3 := n0_
                  have HB := n1_
                  clear n0_ n1_
                  have p328 : 0 ≤ (x4_1 : Int) := of_decide_eq_true (by first | (with_reducible assumption) | assumption)
                  have q328 : x4_1 < (l0.length : Int) := of_decide_eq_true (by first | (with_reducible assumption) | assumption)
                  obtain ⟨ad328, e328, hx328_0, hx328_1⟩ := at_T36 HR0.out x4_1 p328 q328
                  have hw328_1 := hx328_1
                  have hw328_0 := hx328_0
                  obtain rfl : ad311 = ad328 := (by injection e328)
                  replace hx328_0 := (HB.out.cell (World.block_lt_of_cell? w _ hx328_0)).trans hx328_0
                  replace hx328_1 := (HB.out.cell (World.block_lt_of_cell? w _ hx328_1)).trans hx328_1
                  replace p328 := eq_true p328
                  replace q328 := eq_true q328
                  refine start_ (n := 16) (S := fun w' => w'.cell? (ad311.add ((x4_1).toNat * 2)) = some (.int .i64 ((rd_T36 l0 x4_1).f0)) ∧ w'.cell? ⟨(ad311.add ((x4_1).toNat * 2)).block, (ad311.add ((x4_1).toNat * 2)).off + 1, none⟩ = some (.string ((rd_T36 l0 x4_1).f1))) (ds := []) #[false, false, false, false, false, false, false, false, false, false, false, false, false, false, false, false] (by kernel_rfl) rfl rfl ⟨((HB.out.cell (World.block_lt_of_cell? w _ hw328_0)).trans hw328_0), ((HB.out.cell (World.block_lt_of_cell? w _ hw328_1)).trans hw328_1)⟩ (fun hHeld => ?_); refine with_tabW lacquerref13_Lay.tab9 lacquerref13_Lay.bits9 (fun HT_ HW_ => ?_)
                  generalize w19.drew = w20 at HO_3 HB hx328_0 hx328_1 hHeld ⊢
                  refine pure_ (i := 0) (N := some 37) (v := ?_) (a' := ?_) #[true, false, false, false, false, false, false, false, false, false, false, false, false, false, false, false] rfl rfl (any_of HT_.out (by kernel_rfl)) (fun _ _ _ h => h) (Or.inl ⟨by rfl, ?_⟩) ?_ ?_
                  rotate_left
                  · intro w'
                    go_simp
                    with_reducible rfl
                  rotate_left
                  · simp only [Act.put, List.setIfInBounds_toArray, List.set_cons_zero, List.set_cons_succ, i64_w, i32_w]
                    rfl
                  refine pure_ (i := 1) (N := some 38) (v := ?_) (a' := ?_) #[true, true, false, false, false, false, false, false, false, false, false, false, false, false, false, false] rfl rfl (any_of HT_.out (by kernel_rfl)) (fun _ _ _ h => h) (Or.inl ⟨by rfl, ?_⟩) ?_ ?_
                  rotate_left
                  · intro w'
                    go_simp
                    with_reducible rfl
                  rotate_left
                  · simp only [Act.put, List.setIfInBounds_toArray, List.set_cons_zero, List.set_cons_succ, i64_w, i32_w]
                    rfl
                  refine pure_ (i := 2) (N := some 39) (v := ?_) (a' := ?_) #[true, true, true, false, false, false, false, false, false, false, false, false, false, false, false, false] rfl rfl (any_of HT_.out (by kernel_rfl)) (fun _ _ _ h => h) (Or.inl ⟨by rfl, ?_⟩) ?_ ?_
                  rotate_left
                  · intro w'
                    go_simp
                    with_reducible rfl
                  rotate_left
                  · simp only [Act.put, List.setIfInBounds_toArray, List.set_cons_zero, List.set_cons_succ, i64_w, i32_w]
                    rfl
                  refine pure_ (i := 5) (N := some 42) (v := ?_) (a' := ?_) #[true, true, true, false, false, true, false, false, false, false, false, false, false, false, false, false] rfl rfl (any_of HT_.out (by kernel_rfl)) (fun _ _ _ h => h) (Or.inl ⟨by rfl, ?_⟩) ?_ ?_
                  rotate_left
                  · intro w'
                    go_simp
                    with_reducible rfl
                  rotate_left
                  · simp only [Act.put, List.setIfInBounds_toArray, List.set_cons_zero, List.set_cons_succ, i64_w, i32_w]
                    rfl
                  refine pure_ (i := 7) (N := some 44) (v := ?_) (a' := ?_) #[true, true, true, false, false, true, false, true, false, false, false, false, false, false, false, false] rfl rfl (any_of HT_.out (by kernel_rfl)) (fun _ _ _ h => h) (Or.inl ⟨by rfl, ?_⟩) ?_ ?_
                  rotate_left
                  · intro w'
                    go_simp
                    with_reducible rfl
                  rotate_left
                  · simp only [Act.put, List.setIfInBounds_toArray, List.set_cons_zero, List.set_cons_succ, i64_w, i32_w]
                    rfl
                  refine pure_ (i := 8) (N := some 45) (v := ?_) (a' := ?_) #[true, true, true, false, false, true, false, true, true, false, false, false, false, false, false, false] rfl rfl (any_of HT_.out (by kernel_rfl)) (fun _ _ _ h => h) (Or.inl ⟨by rfl, ?_⟩) ?_ ?_
                  rotate_left
                  · intro w'
                    go_simp
                    with_reducible rfl
                  rotate_left
                  · simp only [Act.put, List.setIfInBounds_toArray, List.set_cons_zero, List.set_cons_succ, i64_w, i32_w]
                    rfl
                  refine pure_ (i := 9) (N := some 46) (v := ?_) (a' := ?_) #[true, true, true, false, false, true, false, true, true, true, false, false, false, false, false, false] rfl rfl (any_of HT_.out (by kernel_rfl)) (fun _ _ _ h => h) (Or.inl ⟨by rfl, ?_⟩) ?_ ?_
                  rotate_left
                  · intro w'
                    go_simp
                    with_reducible rfl
                  rotate_left
                  · simp only [Act.put, List.setIfInBounds_toArray, List.set_cons_zero, List.set_cons_succ, i64_w, i32_w]
                    rfl
                  refine pure_ (i := 10) (N := some 47) (v := ?_) (a' := ?_) #[true, true, true, false, false, true, false, true, true, true, true, false, false, false, false, false] rfl rfl (any_of HT_.out (by kernel_rfl)) (fun _ _ _ h => h) (Or.inl ⟨by rfl, ?_⟩) ?_ ?_
                  rotate_left
                  · intro w'
                    go_simp
                    with_reducible rfl
                  rotate_left
                  · simp only [Act.put, List.setIfInBounds_toArray, List.set_cons_zero, List.set_cons_succ, i64_w, i32_w]
                    rfl
                  refine take_ (i := 11) (N := some 48) (v := ?_) (a' := ?_) #[true, true, true, false, false, true, false, true, true, true, true, true, false, false, false, false] rfl rfl (take_ofW HT_.out HW_.out (by kernel_rfl)) (fun _ _ _ h => h) (Or.inl ⟨by rfl, ?_⟩) hHeld ?_ ?_
                  rotate_left
                  · rintro w' ⟨s0, s1⟩
                    go_simp
                    with_reducible rfl
                  rotate_left
                  · simp only [Act.put, List.setIfInBounds_toArray, List.set_cons_zero, List.set_cons_succ, i64_w, i32_w]
                    rfl
                  refine one_ (i := 3) (N := some 40) #[true, true, true, true, false, true, false, true, true, true, true, true, false, false, false, false] rfl rfl (one_of HT_.out (by kernel_rfl)) (by decide) (fun K hK => ?_)
                  refine Kd.R_lit_step (Kd.int .u8) _ 5 ?hg (N := 40) ?hd (xs := ([(Go.bits .and .i64 ((rd_T36 l0 x4_1).f0) 127) % 256] : List Int)) (inner := [.int .u8 ((Go.bits .and .i64 ((rd_T36 l0 x4_1).f0) 127) % 256)]) (ok := fun _ => True) (okp := fun _ => True) ?hr ?hp (fun _ hk => hk) trivial (Below.refl _ _) (Nat.le_refl _) (by simp) ?_; (case hd => rfl); (case hg => rfl); (case hr => first | (go_simp; done) | (go_simp; rfl)); (case hp => exact (Reps.one (show Kd.M (Kd.int .u8) _ _ _ ((Go.bits .and .i64 ((rd_T36 l0 x4_1).f0) 127) % 256) [.int .u8 ((Go.bits .and .i64 ((rd_T36 l0 x4_1).f0) 127) % 256)] from rfl) (Reps.none _ _)))
                  intro v326 w21 ho22 hb hg_ hnew_
                  clear hg_ hnew_
                  (first | rw [← Ny325.out] at ho22 | (simp only [Int.reduceToNat] at ho22; rw [← Ny325.out] at ho22))
                  have n0_ := Aside0.mk (Kd.R_below (by (with_reducible repeat (first | apply Kd.R_alloc | apply Kd.R_drewN | apply Kd.R_drew)); exact HO_3.out) hb)
                  have n1_ := Aside0.mk (Kd.R_lower ho22 (below_size (by repeat (first | (with_reducible first | exact HB.out | apply below_alloc | apply pw_below_drewN | apply below_drew1) | exact HB.out))))
                  have n2_ := Aside0.mk (below_step (by repeat (first | (with_reducible first | exact HB.out | apply below_alloc | apply pw_below_drewN | apply below_drew1) | exact HB.out)) hb)
                  clear HO_3
                  clear HB
                  have HO_3 := n0_
                  have HO327 := n1_
                  have HB := n2_
                  clear n0_ n1_ n2_
                  clear hb ho22
                  refine hK.out _ _ ⟨((HB.out.cell (World.block_lt_of_cell? w _ hw328_0)).trans hw328_0), ((HB.out.cell (World.block_lt_of_cell? w _ hw328_1)).trans hw328_1)⟩ (fun hHeld => ?_)
                  clear hK K
                  refine norm_ (a' := ?_) ?_ ?_
                  rotate_left
                  · show Act.put _ (some 40) _ = _
                    simp only [Act.put, List.setIfInBounds_toArray, List.set_cons_zero, List.set_cons_succ, i64_w, i32_w]
                    rfl
                  refine one_ (i := 4) (N := some 41) #[true, true, true, true, true, true, false, true, true, true, true, true, false, false, false, false] rfl rfl (one_of HT_.out (by kernel_rfl)) (by decide) (fun K hK => ?_)
                  have hcv23 := own_string (P := Try.prog) Try.underlying68 Try.underlying5 Try.underlying9 (Kd.own_of_R HO327.out)
                  refine value_ (w1 := ?_) (v := ?_) (by rfl) rfl ?_ ?_
                  rotate_left 2
                  · go_simp
                    constructor
                    · rfl
                    · rfl
                  clear hcv23
                  refine hK.out _ _ ⟨((HB.out.cell (World.block_lt_of_cell? w _ hw328_0)).trans hw328_0), ((HB.out.cell (World.block_lt_of_cell? w _ hw328_1)).trans hw328_1)⟩ (fun hHeld => ?_)
                  clear hK K
                  refine norm_ (a' := ?_) ?_ ?_
                  rotate_left
                  · show Act.put _ (some 41) _ = _
                    simp only [Act.put, List.setIfInBounds_toArray, List.set_cons_zero, List.set_cons_succ, i64_w, i32_w]
                    rfl
                  refine pure_ (i := 6) (N := some 43) (v := ?_) (a' := ?_) #[true, true, true, true, true, true, true, true, true, true, true, true, false, false, false, false] rfl rfl (any_of HT_.out (by kernel_rfl)) (fun _ _ _ h => h) (Or.inl ⟨by rfl, ?_⟩) ?_ ?_
                  rotate_left
                  · intro w'
                    go_simp
                    with_reducible rfl
                  rotate_left
                  · simp only [Act.put, List.setIfInBounds_toArray, List.set_cons_zero, List.set_cons_succ, i64_w, i32_w]
                    rfl
                  refine pure_ (i := 12) (N := some 49) (v := ?_) (a' := ?_) #[true, true, true, true, true, true, true, true, true, true, true, true, true, false, false, false] rfl rfl (any_of HT_.out (by kernel_rfl)) (fun _ _ _ h => h) (Or.inl ⟨by rfl, ?_⟩) ?_ ?_
                  rotate_left
                  · intro w'
                    go_simp
                    with_reducible rfl
                  rotate_left
                  · simp only [Act.put, List.setIfInBounds_toArray, List.set_cons_zero, List.set_cons_succ, i64_w, i32_w]
                    rfl
                  refine one_ (i := 13) (N := some 50) #[true, true, true, true, true, true, true, true, true, true, true, true, true, true, false, false] rfl rfl (one_of HT_.out (by kernel_rfl)) (by decide) (fun K hK => ?_)
                  refine value_ (w1 := ?_) (v := ?_) (by rfl) rfl ?_ ?_
                  rotate_left 2
                  · go_simp
                    constructor
                    · rfl
                    · rfl
                  refine hK.out _ _ ⟨(World.cell?_alloc_lt _ _ _ (World.block_lt_of_cell? _ _ (((HB.out.cell (World.block_lt_of_cell? w _ hw328_0)).trans hw328_0)))).trans (((HB.out.cell (World.block_lt_of_cell? w _ hw328_0)).trans hw328_0)), (World.cell?_alloc_lt _ _ _ (World.block_lt_of_cell? _ _ (((HB.out.cell (World.block_lt_of_cell? w _ hw328_1)).trans hw328_1)))).trans (((HB.out.cell (World.block_lt_of_cell? w _ hw328_1)).trans hw328_1))⟩ (fun hHeld => ?_)
                  clear hK K
                  refine norm_ (a' := ?_) ?_ ?_
                  rotate_left
                  · show Act.put _ (some 50) _ = _
                    simp only [Act.put, List.setIfInBounds_toArray, List.set_cons_zero, List.set_cons_succ, i64_w, i32_w]
                    rfl
                  refine one_ (i := 14) (N := some 51) #[true, true, true, true, true, true, true, true, true, true, true, true, true, true, true, false] rfl rfl (one_of HT_.out (by kernel_rfl)) (by decide) (fun K hK => ?_)
                  refine Kd.R_append_step Kd.string (w0 := w) w.heap.size (by rfl) (.tmp 37) (.tmp 50) 75 9 (.string ⟨#[]⟩) 16 rfl Try.underlying75 info9 rfl (by decide) (by omega) u3 x3_1 (((strOfNums y325) ++ t323) ++ ((rd_T36 l0 x4_1).f1)) [.string (((strOfNums y325) ++ t323) ++ ((rd_T36 l0 x4_1).f1))] (fun _ => True) (fun _ => False) rfl rfl ?aP (fun _ hk => hk.elim) ?aF ?aO ?aB ?aS ?aL ?_
                  (case aP => exact rfl)
                  (case aB => exact (by repeat (first | (with_reducible first | exact HB.out | apply below_alloc | apply pw_below_drewN | apply below_drew1) | exact HB.out)))
                  (case aF => exact (fun _ _ => trivial))
                  (case aO => exact (by (with_reducible repeat (first | apply Kd.R_alloc | apply Kd.R_drewN | apply Kd.R_drew)); exact HO_3.out))
                  (case aS => exact (below_size (by repeat (first | (with_reducible first | exact HB.out | apply below_alloc | apply pw_below_drewN | apply below_drew1) | exact HB.out))))
                  (case aL => have := LMc18.out; omega)
                  intro v330 w24 ho hb hg hat
                  rw [← Ny329.out] at ho
                  have n0_ := Aside0.mk (Kd.R_over' (by (with_reducible repeat (first | apply Kd.R_alloc | apply Kd.R_drewN | apply Kd.R_drew)); exact HO327.out) (Kd.R_typed (by (with_reducible repeat (first | apply Kd.R_alloc | apply Kd.R_drewN | apply Kd.R_drew)); exact HO_3.out)) (by decide) hg)
                  have n1_ := Aside0.mk (hb)
                  have n2_ := Aside0.mk (ho)
                  clear HO327
                  clear HB
                  clear HO_3
                  have HO327 := n0_
                  have HB := n1_
                  have HO331 := n2_
                  clear n0_ n1_ n2_
                  clear ho hb hg hat
                  refine hK.out _ _ ⟨((HB.out.cell (World.block_lt_of_cell? w _ hw328_0)).trans hw328_0), ((HB.out.cell (World.block_lt_of_cell? w _ hw328_1)).trans hw328_1)⟩ (fun hHeld => ?_)
                  clear hK K
                  refine norm_ (a' := ?_) ?_ ?_
                  rotate_left
                  · show Act.put _ (some 51) _ = _
                    simp only [Act.put, List.setIfInBounds_toArray, List.set_cons_zero, List.set_cons_succ, i64_w, i32_w]
                    rfl
                  refine pure_ (i := 15) (N := some 3) (v := ?_) (a' := ?_) #[true, true, true, true, true, true, true, true, true, true, true, true, true, true, true, true] rfl rfl (any_of HT_.out (by kernel_rfl)) (fun _ _ _ h => h) (Or.inl ⟨by rfl, ?_⟩) ?_ ?_
                  rotate_left
                  · intro w'
                    go_simp
                    with_reducible rfl
                  rotate_left
                  · simp only [Act.put, List.setIfInBounds_toArray, List.set_cons_zero, List.set_cons_succ, i64_w, i32_w]
                    rfl
                  refine done_ (done_of HT_.out (by kernel_rfl)) ?_
                  try go_wp2
                  go_roundg k1
                  case measure => have := HK1.out; omega
                  case rel => exact ⟨(y329), (wrap64 (x4_1 + 1)), (by first | rfl | (simp; done) | (simp [*]; done)), H', ⟨by have := HK1.out; omega⟩, ⟨by (with_reducible repeat (first | apply Kd.R_alloc | apply Kd.R_drewN | apply Kd.R_drew)); exact HO331.out⟩, ⟨by repeat (first | (with_reducible first | exact HB.out | apply below_alloc | apply pw_below_drewN | apply below_drew1) | exact HB.out)⟩⟩
                · rw [if_neg c18] at H
                  exact absurd H (by simp)
              · rw [if_neg c17] at H
                exact absurd H (by simp)
            · rw [if_neg c16] at H
              exact absurd H (by simp)
        · rw [if_neg c3] at H
          exact absurd H (by simp)
      · rw [if_neg c2] at H
        have c2b0 : decide (x4_1 < (l0.length : Int)) = false := decide_eq_false c2
        (try simp only [ByteArray.size_append] at c2b0)
        clear c2
        obtain rfl := Option.some.inj H
        go_wp2
        go_ret
        exact ⟨_, by first | rfl | (simp [errW_none, errW_some] <;> rfl) | (simp [*, errW_none, errW_some] <;> rfl), by (with_reducible repeat (first | apply Kd.R_alloc | apply Kd.R_drewN | apply Kd.R_drew)); exact HO_3.out, by repeat (first | (with_reducible first | exact HB.out | apply below_alloc | apply pw_below_drewN | apply below_drew1) | exact HB.out)⟩

end Go.Proofs.Ytgihacaegmpggaa.R

/- Printed by a program of ours (pp.sh), partly over contracts proved by hand. -/
namespace Go.Proofs.Ytgihacaegmpggaa.R
open Go.RowKit Go.Proofs.YtgihacaegmpggaaW.PrintWords Go.Proofs.YtgihacaegmpggaaW.PrintLast Go.Proofs.YtgihacaegmpggaaW.PrintMore
attribute [local go_sem] max2_int min2_int max_two min_two max_three min_three max_four min_four   -- for this text's walks alone
set_option linter.unusedVariables false
set_option linter.unusedSimpArgs false

/-! ### lacquerref13_Build: function 19 -/
mutual
def lacquerref13_Build.l0 : Nat → List (S36) → Int → Option (ByteArray × Int)
  | 0, _, _ => none
  | k + 1, x0, x4 => if x4 < (x0.length : Int) then (if 0 ≤ x4 then ((lacquerref13_Check.f k ((rd_T36 x0 x4).f0) ((rd_T36 x0 x4).f1)).bind fun t333 => (if t333 = 0 then (lacquerref13_Build.l0 k x0 (wrap64 (x4 + 1))) else (some ((⟨#[]⟩ : ByteArray), 60)))) else (none)) else ((lacquerref13_Lay.f k x0).bind fun t334 => (lacquerref13_Build.l1 k x0 ([] : List Int) t334 0))
def lacquerref13_Build.l1 : Nat → List (S36) → List Int → List ByteArray → Int → Option (ByteArray × Int)
  | 0, _, _, _, _ => none
  | k + 1, x0, x5, x6, x7 => if x7 < (x6.length : Int) then (if 0 ≤ x7 then (if x5.length + (rdOf ByteArray.empty x6 x7).size < 140737488355328 then (lacquerref13_Build.l1 k x0 (x5 ++ bytesOf (rdOf ByteArray.empty x6 x7)) x6 (wrap64 (x7 + 1))) else (none)) else (none)) else ((lacquerref13_Parse.f k (strOfNums x5)).bind fun bt341 => (if bt341.2.2 = 0 then (if bt341.2.1 = (x5.length : Int) then ((lacquerref13_Same.f k x0 bt341.1).bind fun t346 => (if t346 = true then (some (strOfNums x5, 0)) else (some ((⟨#[]⟩ : ByteArray), 60)))) else (some ((⟨#[]⟩ : ByteArray), 60))) else (some ((⟨#[]⟩ : ByteArray), 60))))
end
def lacquerref13_Build.f (k : Nat) (l0 : List (S36)) : Option (ByteArray × Int) := lacquerref13_Build.l0 k l0 0
set_option maxHeartbeats 8000000 in
set_option maxRecDepth 100000 in
theorem lacquerref13_Build.calls (k : Nat) (A0 : Option Addr) (c0 : Nat) (l0 : List (S36)) (r1 : ByteArray) (r2 : Int) (w : World) (hr0 : Kd.C k36 w A0 l0.length l0) (hc0 : l0.length ≤ c0) (h : lacquerref13_Build.f k l0 = some (r1, r2)) :
    Calls Try.prog 19 #[.slice A0 l0.length c0] w fun e w' => e = .returned (.tuple #[.string r1, .int .i64 r2]) ∧ Below w.heap.size w w' := by
  have hu36 := Try.underlying36
  have HR0 := Aside0.mk hr0
  have HC0 := Aside0.mk hc0
  clear hr0 hc0
  have HB := Aside0.mk (Below.refl w.heap.size w)
  have H : (lacquerref13_Build.l0 k l0 0) = some (r1, r2) := h
  clear h
  have H' := Aside0.mk H
  clear H
  go_enter Try.func19, Try.ntmps19
  go_wp2
  go_loopg [4] k (fun kq v4 w' => ∃ (x4_1 : Int), v4 = .int .i64 x4_1 ∧ Aside0 (lacquerref13_Build.l0 kq l0 x4_1 = some (r1, r2)) ∧ Aside0 (kq ≤ k) ∧ Aside0 (Below w.heap.size w w'))
  case atStart => exact ⟨(0), (by first | rfl | (simp; done) | (simp [*]; done)), H', ⟨Nat.le_refl _⟩, ⟨by repeat (first | (with_reducible first | exact HB.out | apply below_alloc | apply pw_below_drewN | apply below_drew1) | exact HB.out)⟩⟩
  case round =>
    clear H'
    try clear c1
    obtain ⟨x4_1, rfl, HA, HK1, HB⟩ := hrel
    cases gk with
    | zero => exact absurd HA.out (by simp [lacquerref13_Build.l0])
    | succ k1 =>
      have H := HA.out
      clear HA
      simp only [lacquerref13_Build.l0] at H
      by_cases c2 : x4_1 < (l0.length : Int)
      · rw [if_pos c2] at H
        have c2b0 : decide (x4_1 < (l0.length : Int)) = true := decide_eq_true c2
        clear c2
        by_cases c3 : 0 ≤ x4_1
        · rw [if_pos c3] at H
          have c3b0 : decide (0 ≤ x4_1) = true := decide_eq_true c3
          clear c3
          replace H := Option.bind_eq_some_iff.mp H
          obtain ⟨t333, A40, H⟩ := H
          replace H : (if t333 = 0 then (lacquerref13_Build.l0 k1 l0 (wrap64 (x4_1 + 1))) else (some ((⟨#[]⟩ : ByteArray), 60))) = some (r1, r2) := H
          have A4 := Aside0.mk A40
          clear A40
          by_cases c5 : t333 = 0
          · rw [if_pos c5] at H
            have c5b0 : (t333 == 0) = true := beq_iff_eq.mpr c5
            have c5b1 : (t333 != 0) = false := bne_eq_false_iff_eq.mpr c5
            clear c5
            have H' := Aside0.mk H
            clear H
            have p332 : 0 ≤ (x4_1 : Int) := of_decide_eq_true (by first | (with_reducible assumption) | assumption)
            have q332 : x4_1 < (l0.length : Int) := of_decide_eq_true (by first | (with_reducible assumption) | assumption)
            obtain ⟨ad332, e332, hx332_0, hx332_1⟩ := at_T36 HR0.out x4_1 p332 q332
            cases e332
            replace hx332_0 := (HB.out.cell (World.block_lt_of_cell? w _ hx332_0)).trans hx332_0
            replace hx332_1 := (HB.out.cell (World.block_lt_of_cell? w _ hx332_1)).trans hx332_1
            replace p332 := eq_true p332
            replace q332 := eq_true q332
            go_wp2_with (first | ((with_reducible refine gate_callee (f := 14) rfl ?_); refine goesL_ (some 21) rfl rfl Try.func14 (by kernel_rfl) rfl #[.agg #[.int .i64 ((rd_T36 l0 x4_1).f0), .string ((rd_T36 l0 x4_1).f1)]] rfl (by (try simp only [List.map_toArray, List.map_cons, List.map_nil]); first | done | rfl | (simp only [List.length_drop, List.length_take]; rfl)) ?_; (with_reducible refine (lacquerref13_Check.calls k1 ((rd_T36 l0 x4_1).f0) ((rd_T36 l0 x4_1).f1) t333 _ A4.out).mono ?_); rintro e w6 ⟨rfl, hb⟩; refine ⟨_, rfl, ?_⟩; have n0_ := Aside0.mk (below_step (by repeat (first | (with_reducible first | exact HB.out | apply below_alloc | apply pw_below_drewN | apply below_drew1) | exact HB.out)) hb); clear HB; have HB := n0_; clear n0_; (try clear hb); (try clear hb2); (try clear hk); (try clear hi)))
            go_roundg k1
            case measure => have := HK1.out; omega
            case rel => exact ⟨(wrap64 (x4_1 + 1)), (by first | rfl | (simp; done) | (simp [*]; done)), H', ⟨by have := HK1.out; omega⟩, ⟨by repeat (first | (with_reducible first | exact HB.out | apply below_alloc | apply pw_below_drewN | apply below_drew1) | exact HB.out)⟩⟩
          · rw [if_neg c5] at H
            have c5b0 : (t333 == 0) = false := beq_eq_false_iff_ne.mpr c5
            have c5b1 : (t333 != 0) = true := bne_iff_ne.mpr c5
            simp only [Option.some.injEq, Prod.mk.injEq] at H
            obtain ⟨rfl, rfl⟩ := H
            have p332 : 0 ≤ (x4_1 : Int) := of_decide_eq_true (by first | (with_reducible assumption) | assumption)
            have q332 : x4_1 < (l0.length : Int) := of_decide_eq_true (by first | (with_reducible assumption) | assumption)
            obtain ⟨ad332, e332, hx332_0, hx332_1⟩ := at_T36 HR0.out x4_1 p332 q332
            cases e332
            replace hx332_0 := (HB.out.cell (World.block_lt_of_cell? w _ hx332_0)).trans hx332_0
            replace hx332_1 := (HB.out.cell (World.block_lt_of_cell? w _ hx332_1)).trans hx332_1
            replace p332 := eq_true p332
            replace q332 := eq_true q332
            go_wp2_with (first | ((with_reducible refine gate_callee (f := 14) rfl ?_); refine goesL_ (some 21) rfl rfl Try.func14 (by kernel_rfl) rfl #[.agg #[.int .i64 ((rd_T36 l0 x4_1).f0), .string ((rd_T36 l0 x4_1).f1)]] rfl (by (try simp only [List.map_toArray, List.map_cons, List.map_nil]); first | done | rfl | (simp only [List.length_drop, List.length_take]; rfl)) ?_; (with_reducible refine (lacquerref13_Check.calls k1 ((rd_T36 l0 x4_1).f0) ((rd_T36 l0 x4_1).f1) t333 _ A4.out).mono ?_); rintro e w7 ⟨rfl, hb⟩; refine ⟨_, rfl, ?_⟩; have n0_ := Aside0.mk (below_step (by repeat (first | (with_reducible first | exact HB.out | apply below_alloc | apply pw_below_drewN | apply below_drew1) | exact HB.out)) hb); clear HB; have HB := n0_; clear n0_; (try clear hb); (try clear hb2); (try clear hk); (try clear hi)))
            go_ret2
            exact ⟨by first | rfl | (simp [errW_none, errW_some] <;> rfl) | (simp [*, errW_none, errW_some] <;> rfl), by repeat (first | (with_reducible first | exact HB.out | apply below_alloc | apply pw_below_drewN | apply below_drew1) | exact HB.out)⟩
        · rw [if_neg c3] at H
          exact absurd H (by simp)
      · rw [if_neg c2] at H
        have c2b0 : decide (x4_1 < (l0.length : Int)) = false := decide_eq_false c2
        clear c2
        replace H := Option.bind_eq_some_iff.mp H
        obtain ⟨t334, A80, H⟩ := H
        replace H : (lacquerref13_Build.l1 k1 l0 ([] : List Int) t334 0) = some (r1, r2) := H
        have A8 := Aside0.mk A80
        clear A80
        have H' := Aside0.mk H
        clear H
        go_wp2_with (first | ((with_reducible refine gate_callee (f := 38) rfl ?_); refine goesL_ (some 24) rfl rfl Try.func38 (by kernel_rfl) rfl #[.slice A0 l0.length c0] rfl (by (try simp only [List.map_toArray, List.map_cons, List.map_nil]); first | done | rfl | (simp only [List.length_drop, List.length_take]; rfl)) ?_; (with_reducible refine (lacquerref13_Lay.calls k1 _ _ l0 t334 _ ?side1 ?side2 A8.out).mono ?_); (case side1 => repeat (first | exact (Kd.C_below HR0.out HB.out) | (with_reducible refine Kd.C_alloc ?_ _) | (with_reducible refine Kd.C_drewN ?_ _) | (with_reducible refine Kd.C_drew ?_))); (case side2 => exact HC0.out); rintro e w9 ⟨v335, rfl, ho0, hb⟩; refine ⟨_, rfl, ?_⟩; have n0_ := Aside0.mk (Kd.R_lower ho0 (below_size (by repeat (first | (with_reducible first | exact HB.out | apply below_alloc | apply pw_below_drewN | apply below_drew1) | exact HB.out)))); have n1_ := Aside0.mk (below_step (by repeat (first | (with_reducible first | exact HB.out | apply below_alloc | apply pw_below_drewN | apply below_drew1) | exact HB.out)) hb); clear HB; have HO336 := n0_; have HB := n1_; clear n0_ n1_; (try clear hb); (try clear hb2); (try clear hk); (try clear hi); (try clear ho0)))
        go_loopg [5, 7] k1 (fun kq v5 v7 w' => ∃ (x5_2 : List Int) (x7_2 : Int), v7 = .int .i64 x7_2 ∧ Aside0 (lacquerref13_Build.l1 kq l0 x5_2 t334 x7_2 = some (r1, r2)) ∧ Aside0 (kq ≤ k1) ∧ Aside0 (Kd.R (Kd.int .u8) 5 w' w.heap.size (fun _ => True) v5 x5_2) ∧ Aside0 (Kd.R Kd.string 9 w' w.heap.size (fun _ => True) v335 t334) ∧ Aside0 (Below w.heap.size w w'))
        case atStart => exact ⟨(([] : List Int)), (0), (by first | rfl | (simp; done) | (simp [*]; done)), H', ⟨Nat.le_refl _⟩, ⟨by first | exact Kd.R_nil _ _ _ _ _ | exact Kd.N_nil _ _ _ _ _ | exact Kd.V_nil _ _ _ _ _ | exact Kd.Q_nil _ _ _ _ _ | exact Kd.S_nil _ _ _ _ _⟩, ⟨by (with_reducible repeat (first | apply Kd.R_alloc | apply Kd.R_drewN | apply Kd.R_drew)); exact HO336.out⟩, ⟨by repeat (first | (with_reducible first | exact HB.out | apply below_alloc | apply pw_below_drewN | apply below_drew1) | exact HB.out)⟩⟩
        case round =>
          clear H'
          try clear c1
          try clear c2
          try clear c2b0
          try clear p2
          try clear c3
          try clear c3b0
          try clear p3
          try clear q3
          try clear hx3
          try clear c5
          try clear c5b0
          try clear c5b1
          try clear p6
          try clear hx332_0
          try clear hx332_1
          try clear p332
          try clear q332
          obtain ⟨x5_2, x7_2, rfl, HA, HK2, HO_5, HO_6, HB⟩ := hrel
          cases gk with
          | zero => exact absurd HA.out (by simp [lacquerref13_Build.l1])
          | succ k2 =>
            have H := HA.out
            clear HA
            simp only [lacquerref13_Build.l1] at H
            by_cases c10 : x7_2 < (t334.length : Int)
            · rw [if_pos c10] at H
              have c10b0 : decide (x7_2 < (t334.length : Int)) = true := decide_eq_true c10
              clear c10
              by_cases c11 : 0 ≤ x7_2
              · rw [if_pos c11] at H
                have c11b0 : decide (0 ≤ x7_2) = true := decide_eq_true c11
                clear c11
                by_cases c12 : x5_2.length + (rdOf ByteArray.empty t334 x7_2).size < 140737488355328
                · rw [if_pos c12] at H
                  have LMc12 := Aside0.mk c12
                  clear c12
                  obtain ⟨y338, hy338⟩ : ∃ y_ : List Int, y_ = (x5_2 ++ bytesOf (rdOf ByteArray.empty t334 x7_2)) := ⟨_, rfl⟩
                  replace H : (lacquerref13_Build.l1 k2 l0 y338 t334 (wrap64 (x7_2 + 1))) = some (r1, r2) := by first | (rw [hy338]; with_reducible exact H) | (have H2_ := (Option.bind_some _ _).symm.trans H; rw [hy338]; with_reducible exact H2_) | (have H2_ := (Option.bind_some _ _).symm.trans H; with_reducible exact H2_) | with_reducible exact H | (rw [hy338]; exact H) | exact H
                  have Ny338 := Aside0.mk hy338
                  clear hy338
                  have H' := Aside0.mk H
                  clear H
                  obtain ⟨Ao13, co13, eo13⟩ := Kd.R_slice HO_6.out
                  subst eo13
                  have p337 : 0 ≤ (x7_2 : Int) := of_decide_eq_true (by first | (with_reducible assumption) | assumption)
                  have q337 : x7_2 < (t334.length : Int) := of_decide_eq_true (by first | (with_reducible assumption) | assumption)
                  obtain ⟨ad337, e337, hx337_0⟩ := Kd.at_string (Kd.R_reads' HO_6.out).2.2 x7_2 p337 q337
                  cases e337
                  replace p337 := eq_true p337
                  replace q337 := eq_true q337
                  go_wp2_with (first | (at_builtin; refine print_append_str (w0 := w) w.heap.size rfl (.tmp 31) _ 68 9 5 rfl Try.underlying68 Try.underlying9 info5 u5 x5_2 (rdOf ByteArray.empty t334 x7_2) rfl rfl ?aO ?aB ?aS ?aL ?_; (case aB => exact (by repeat (first | (with_reducible first | exact HB.out | apply below_alloc | apply pw_below_drewN | apply below_drew1) | exact HB.out))); (case aO => exact (Kd.own_of_R (by (with_reducible repeat (first | apply Kd.R_alloc | apply Kd.R_drewN | apply Kd.R_drew)); exact HO_5.out))); (case aS => exact (below_size (by repeat (first | (with_reducible first | exact HB.out | apply below_alloc | apply pw_below_drewN | apply below_drew1) | exact HB.out)))); (case aL => have := LMc12.out; omega); intro v339 w14 ho0 hb hg; have ho := Kd.R_of_own (h1 := fun _ => rfl) (ok := fun _ => True) ho0 (fun _ _ => trivial); clear ho0; have hat := True.intro; rw [← Ny338.out] at ho; change Kd.R (Kd.int .u8) 5 w14 w.heap.size (fun _ => True) v339 y338 at ho; have n0_ := Aside0.mk (Kd.R_over' (by (with_reducible repeat (first | apply Kd.R_alloc | apply Kd.R_drewN | apply Kd.R_drew)); exact HO_6.out) (Kd.R_typed (by (with_reducible repeat (first | apply Kd.R_alloc | apply Kd.R_drewN | apply Kd.R_drew)); exact HO_5.out)) (by decide) hg); have n1_ := Aside0.mk (hb); have n2_ := Aside0.mk (ho); clear HO_6; clear HB; clear HO_5; have HO_6 := n0_; have HB := n1_; have HO340 := n2_; clear n0_ n1_ n2_; clear ho hb hg hat))
                  go_roundg k2
                  case measure => have := HK1.out; have := HK2.out; omega
                  case rel => exact ⟨(y338), (wrap64 (x7_2 + 1)), (by first | rfl | (simp; done) | (simp [*]; done)), H', ⟨by have := HK1.out; have := HK2.out; omega⟩, ⟨by (with_reducible repeat (first | apply Kd.R_alloc | apply Kd.R_drewN | apply Kd.R_drew)); exact HO340.out⟩, ⟨by (with_reducible repeat (first | apply Kd.R_alloc | apply Kd.R_drewN | apply Kd.R_drew)); exact HO_6.out⟩, ⟨by repeat (first | (with_reducible first | exact HB.out | apply below_alloc | apply pw_below_drewN | apply below_drew1) | exact HB.out)⟩⟩
                · rw [if_neg c12] at H
                  exact absurd H (by simp)
              · rw [if_neg c11] at H
                exact absurd H (by simp)
            · rw [if_neg c10] at H
              have c10b0 : decide (x7_2 < (t334.length : Int)) = false := decide_eq_false c10
              clear c10
              replace H := Option.bind_eq_some_iff.mp H
              obtain ⟨⟨t341, t342, t343⟩, A150, H⟩ := H
              replace H : (if t343 = 0 then (if t342 = (x5_2.length : Int) then ((lacquerref13_Same.f k2 l0 t341).bind fun t346 => (if t346 = true then (some (strOfNums x5_2, 0)) else (some ((⟨#[]⟩ : ByteArray), 60)))) else (some ((⟨#[]⟩ : ByteArray), 60))) else (some ((⟨#[]⟩ : ByteArray), 60))) = some (r1, r2) := H
              have A15 := Aside0.mk A150
              clear A150
              by_cases c16 : t343 = 0
              · rw [if_pos c16] at H
                have c16b0 : (t343 == 0) = true := beq_iff_eq.mpr c16
                have c16b1 : (t343 != 0) = false := bne_eq_false_iff_eq.mpr c16
                clear c16
                by_cases c17 : t342 = (x5_2.length : Int)
                · rw [if_pos c17] at H
                  have c17b0 : (t342 == (x5_2.length : Int)) = true := beq_iff_eq.mpr c17
                  have c17b1 : (t342 != (x5_2.length : Int)) = false := bne_eq_false_iff_eq.mpr c17
                  clear c17
                  replace H := Option.bind_eq_some_iff.mp H
                  obtain ⟨t346, A180, H⟩ := H
                  replace H : (if t346 = true then (some (strOfNums x5_2, 0)) else (some ((⟨#[]⟩ : ByteArray), 60))) = some (r1, r2) := H
                  have A18 := Aside0.mk A180
                  clear A180
                  by_cases c19 : t346 = true
                  · subst c19
                    have H1 : (some (strOfNums x5_2, 0)) = some (r1, r2) := by rw [if_pos rfl] at H; exact H
                    clear H
                    have H := H1
                    clear H1
                    simp only [Option.some.injEq, Prod.mk.injEq] at H
                    obtain ⟨rfl, rfl⟩ := H
                    obtain ⟨Ao20, co20, eo20⟩ := Kd.R_slice HO_6.out
                    subst eo20
                    have hcv21 := own_string (P := Try.prog) Try.underlying68 Try.underlying5 Try.underlying9 (Kd.own_of_R HO_5.out)
                    go_wp2_with (first | ((with_reducible refine gate_callee (f := 16) rfl ?_); refine goesL_ (some 40) rfl rfl Try.func16 (by kernel_rfl) rfl #[.string (strOfNums x5_2)] rfl (by (try simp only [List.map_toArray, List.map_cons, List.map_nil]); first | done | rfl | (simp only [List.length_drop, List.length_take]; rfl)) ?_; (with_reducible refine (lacquerref13_Parse.calls k2 (strOfNums x5_2) t341 t342 t343 _ A15.out).mono ?_); rintro e w22 ⟨v344, rfl, ho0, hb⟩; refine ⟨_, rfl, ?_⟩; have n0_ := Aside0.mk (Kd.R_below (by (with_reducible repeat (first | apply Kd.R_alloc | apply Kd.R_drewN | apply Kd.R_drew)); exact HO_5.out) hb); have n1_ := Aside0.mk (Kd.R_below (by (with_reducible repeat (first | apply Kd.R_alloc | apply Kd.R_drewN | apply Kd.R_drew)); exact HO_6.out) hb); have n2_ := Aside0.mk (Kd.R_lower ho0 (below_size (by repeat (first | (with_reducible first | exact HB.out | apply below_alloc | apply pw_below_drewN | apply below_drew1) | exact HB.out)))); have n3_ := Aside0.mk (below_step (by repeat (first | (with_reducible first | exact HB.out | apply below_alloc | apply pw_below_drewN | apply below_drew1) | exact HB.out)) hb); clear HO_5; clear HO_6; clear HB; have HO_5 := n0_; have HO_6 := n1_; have HO345 := n2_; have HB := n3_; clear n0_ n1_ n2_ n3_; (try clear hb); (try clear hb2); (try clear hk); (try clear hi); (try clear ho0); obtain ⟨Ao23, co23, eo23⟩ := Kd.R_slice HO_5.out; subst eo23; obtain ⟨Ao24, co24, eo24⟩ := Kd.R_slice HO345.out; subst eo24) | (go_at_call 17; (with_reducible refine (lacquerref13_Same.calls k2 _ _ l0 _ _ t341 true _ ?side1 ?side2 ?side3 ?side4 A18.out).mono ?_); (case side1 => repeat (first | exact (Kd.C_below HR0.out HB.out) | (with_reducible refine Kd.C_alloc ?_ _) | (with_reducible refine Kd.C_drewN ?_ _) | (with_reducible refine Kd.C_drew ?_))); (case side2 => exact HC0.out); (case side3 => repeat (first | exact (Kd.R_reads' HO345.out).2.2 | (with_reducible refine Kd.C_alloc ?_ _) | (with_reducible refine Kd.C_drewN ?_ _) | (with_reducible refine Kd.C_drew ?_))); (case side4 => exact (Kd.R_reads' HO345.out).2.1); rintro e w' ⟨rfl, ⟨nd, rfl⟩⟩; have hcv25 := own_string (P := Try.prog) Try.underlying68 Try.underlying5 Try.underlying9 (Kd.own_of_R (Kd.R_drewN HO_5.out nd))))
                    go_ret2
                    exact ⟨by first | rfl | (simp [errW_none, errW_some] <;> rfl) | (simp [*, errW_none, errW_some] <;> rfl), by repeat (first | (with_reducible first | exact HB.out | apply below_alloc | apply pw_below_drewN | apply below_drew1) | exact HB.out)⟩
                  · replace c19 := Bool.eq_false_iff.mpr c19
                    subst c19
                    have H1 : (some ((⟨#[]⟩ : ByteArray), 60)) = some (r1, r2) := by rw [if_neg (show ¬ (false = true) by decide)] at H; exact H
                    clear H
                    have H := H1
                    clear H1
                    simp only [Option.some.injEq, Prod.mk.injEq] at H
                    obtain ⟨rfl, rfl⟩ := H
                    obtain ⟨Ao26, co26, eo26⟩ := Kd.R_slice HO_6.out
                    subst eo26
                    have hcv27 := own_string (P := Try.prog) Try.underlying68 Try.underlying5 Try.underlying9 (Kd.own_of_R HO_5.out)
                    go_wp2_with (first | ((with_reducible refine gate_callee (f := 16) rfl ?_); refine goesL_ (some 40) rfl rfl Try.func16 (by kernel_rfl) rfl #[.string (strOfNums x5_2)] rfl (by (try simp only [List.map_toArray, List.map_cons, List.map_nil]); first | done | rfl | (simp only [List.length_drop, List.length_take]; rfl)) ?_; (with_reducible refine (lacquerref13_Parse.calls k2 (strOfNums x5_2) t341 t342 t343 _ A15.out).mono ?_); rintro e w28 ⟨v344, rfl, ho0, hb⟩; refine ⟨_, rfl, ?_⟩; have n0_ := Aside0.mk (Kd.R_below (by (with_reducible repeat (first | apply Kd.R_alloc | apply Kd.R_drewN | apply Kd.R_drew)); exact HO_5.out) hb); have n1_ := Aside0.mk (Kd.R_below (by (with_reducible repeat (first | apply Kd.R_alloc | apply Kd.R_drewN | apply Kd.R_drew)); exact HO_6.out) hb); have n2_ := Aside0.mk (Kd.R_lower ho0 (below_size (by repeat (first | (with_reducible first | exact HB.out | apply below_alloc | apply pw_below_drewN | apply below_drew1) | exact HB.out)))); have n3_ := Aside0.mk (below_step (by repeat (first | (with_reducible first | exact HB.out | apply below_alloc | apply pw_below_drewN | apply below_drew1) | exact HB.out)) hb); clear HO_5; clear HO_6; clear HB; have HO_5 := n0_; have HO_6 := n1_; have HO345 := n2_; have HB := n3_; clear n0_ n1_ n2_ n3_; (try clear hb); (try clear hb2); (try clear hk); (try clear hi); (try clear ho0); obtain ⟨Ao29, co29, eo29⟩ := Kd.R_slice HO_5.out; subst eo29; obtain ⟨Ao30, co30, eo30⟩ := Kd.R_slice HO345.out; subst eo30) | (go_at_call 17; (with_reducible refine (lacquerref13_Same.calls k2 _ _ l0 _ _ t341 false _ ?side1 ?side2 ?side3 ?side4 A18.out).mono ?_); (case side1 => repeat (first | exact (Kd.C_below HR0.out HB.out) | (with_reducible refine Kd.C_alloc ?_ _) | (with_reducible refine Kd.C_drewN ?_ _) | (with_reducible refine Kd.C_drew ?_))); (case side2 => exact HC0.out); (case side3 => repeat (first | exact (Kd.R_reads' HO345.out).2.2 | (with_reducible refine Kd.C_alloc ?_ _) | (with_reducible refine Kd.C_drewN ?_ _) | (with_reducible refine Kd.C_drew ?_))); (case side4 => exact (Kd.R_reads' HO345.out).2.1); rintro e w' ⟨rfl, ⟨nd, rfl⟩⟩))
                    go_ret2
                    exact ⟨by first | rfl | (simp [errW_none, errW_some] <;> rfl) | (simp [*, errW_none, errW_some] <;> rfl), by repeat (first | (with_reducible first | exact HB.out | apply below_alloc | apply pw_below_drewN | apply below_drew1) | exact HB.out)⟩
                · rw [if_neg c17] at H
                  have c17b0 : (t342 == (x5_2.length : Int)) = false := beq_eq_false_iff_ne.mpr c17
                  have c17b1 : (t342 != (x5_2.length : Int)) = true := bne_iff_ne.mpr c17
                  simp only [Option.some.injEq, Prod.mk.injEq] at H
                  obtain ⟨rfl, rfl⟩ := H
                  obtain ⟨Ao31, co31, eo31⟩ := Kd.R_slice HO_6.out
                  subst eo31
                  have hcv32 := own_string (P := Try.prog) Try.underlying68 Try.underlying5 Try.underlying9 (Kd.own_of_R HO_5.out)
                  go_wp2_with (first | ((with_reducible refine gate_callee (f := 16) rfl ?_); refine goesL_ (some 40) rfl rfl Try.func16 (by kernel_rfl) rfl #[.string (strOfNums x5_2)] rfl (by (try simp only [List.map_toArray, List.map_cons, List.map_nil]); first | done | rfl | (simp only [List.length_drop, List.length_take]; rfl)) ?_; (with_reducible refine (lacquerref13_Parse.calls k2 (strOfNums x5_2) t341 t342 t343 _ A15.out).mono ?_); rintro e w33 ⟨v344, rfl, ho0, hb⟩; refine ⟨_, rfl, ?_⟩; have n0_ := Aside0.mk (Kd.R_below (by (with_reducible repeat (first | apply Kd.R_alloc | apply Kd.R_drewN | apply Kd.R_drew)); exact HO_5.out) hb); have n1_ := Aside0.mk (Kd.R_below (by (with_reducible repeat (first | apply Kd.R_alloc | apply Kd.R_drewN | apply Kd.R_drew)); exact HO_6.out) hb); have n2_ := Aside0.mk (Kd.R_lower ho0 (below_size (by repeat (first | (with_reducible first | exact HB.out | apply below_alloc | apply pw_below_drewN | apply below_drew1) | exact HB.out)))); have n3_ := Aside0.mk (below_step (by repeat (first | (with_reducible first | exact HB.out | apply below_alloc | apply pw_below_drewN | apply below_drew1) | exact HB.out)) hb); clear HO_5; clear HO_6; clear HB; have HO_5 := n0_; have HO_6 := n1_; have HO345 := n2_; have HB := n3_; clear n0_ n1_ n2_ n3_; (try clear hb); (try clear hb2); (try clear hk); (try clear hi); (try clear ho0); obtain ⟨Ao34, co34, eo34⟩ := Kd.R_slice HO_5.out; subst eo34))
                  go_ret2
                  exact ⟨by first | rfl | (simp [errW_none, errW_some] <;> rfl) | (simp [*, errW_none, errW_some] <;> rfl), by repeat (first | (with_reducible first | exact HB.out | apply below_alloc | apply pw_below_drewN | apply below_drew1) | exact HB.out)⟩
              · rw [if_neg c16] at H
                have c16b0 : (t343 == 0) = false := beq_eq_false_iff_ne.mpr c16
                have c16b1 : (t343 != 0) = true := bne_iff_ne.mpr c16
                simp only [Option.some.injEq, Prod.mk.injEq] at H
                obtain ⟨rfl, rfl⟩ := H
                obtain ⟨Ao35, co35, eo35⟩ := Kd.R_slice HO_6.out
                subst eo35
                have hcv36 := own_string (P := Try.prog) Try.underlying68 Try.underlying5 Try.underlying9 (Kd.own_of_R HO_5.out)
                go_wp2_with (first | ((with_reducible refine gate_callee (f := 16) rfl ?_); refine goesL_ (some 40) rfl rfl Try.func16 (by kernel_rfl) rfl #[.string (strOfNums x5_2)] rfl (by (try simp only [List.map_toArray, List.map_cons, List.map_nil]); first | done | rfl | (simp only [List.length_drop, List.length_take]; rfl)) ?_; (with_reducible refine (lacquerref13_Parse.calls k2 (strOfNums x5_2) t341 t342 t343 _ A15.out).mono ?_); rintro e w37 ⟨v344, rfl, ho0, hb⟩; refine ⟨_, rfl, ?_⟩; have n0_ := Aside0.mk (Kd.R_below (by (with_reducible repeat (first | apply Kd.R_alloc | apply Kd.R_drewN | apply Kd.R_drew)); exact HO_5.out) hb); have n1_ := Aside0.mk (Kd.R_below (by (with_reducible repeat (first | apply Kd.R_alloc | apply Kd.R_drewN | apply Kd.R_drew)); exact HO_6.out) hb); have n2_ := Aside0.mk (Kd.R_lower ho0 (below_size (by repeat (first | (with_reducible first | exact HB.out | apply below_alloc | apply pw_below_drewN | apply below_drew1) | exact HB.out)))); have n3_ := Aside0.mk (below_step (by repeat (first | (with_reducible first | exact HB.out | apply below_alloc | apply pw_below_drewN | apply below_drew1) | exact HB.out)) hb); clear HO_5; clear HO_6; clear HB; have HO_5 := n0_; have HO_6 := n1_; have HO345 := n2_; have HB := n3_; clear n0_ n1_ n2_ n3_; (try clear hb); (try clear hb2); (try clear hk); (try clear hi); (try clear ho0)))
                go_ret2
                exact ⟨by first | rfl | (simp [errW_none, errW_some] <;> rfl) | (simp [*, errW_none, errW_some] <;> rfl), by repeat (first | (with_reducible first | exact HB.out | apply below_alloc | apply pw_below_drewN | apply below_drew1) | exact HB.out)⟩

-- NOT PRINTED: function 6 (lacquerlaw13_MetaBuilds)

/-! ### lacquerlaw13_MetaBack: function 7 -/

end Go.Proofs.Ytgihacaegmpggaa.R

/- The plain law of layer 13: blocks as a text, the reference. -/
namespace Go.Proofs.Ytgihacaegmpggaa.Plain
open Go.RowKit Go.Proofs.Ytgihacaegmpggaa Go.Proofs.Ytgihacaegmpggaa.R Go.Proofs.Ytgihacaegmpggaa.Be Go.Proofs.YtgihacaegmpggaaW.PrintWords Go.Proofs.YtgihacaegmpggaaW.PrintLast Go.Proofs.YtgihacaegmpggaaW.PrintMore
set_option linter.unusedVariables false
set_option linter.unusedSimpArgs false

/-- All bytes of a list of blocks. -/
def tl (l : List S36) : Nat := (l.map fun b => 4 + b.f1.size).sum
theorem prs_tot (s : ByteArray) : ∀ (d : Nat) (l : List S36) (p : Nat) (c : Int), (prs s d l p c).2.2 = 0 → ∃ x, (prs s d l p c).1 = l ++ x ∧ (prs s d l p c).2.1 = ((p + tl x : Nat) : Int) ∧ p + tl x ≤ s.size
  | 0, l, p, c, h => by cases h
  | d + 1, l, p, c, h => by
    unfold prs at h ⊢
    by_cases h4 : s.size < p + 4
    · rw [if_pos h4] at h
      cases h
    rw [if_neg h4] at h ⊢
    by_cases hlong : (s.size : Int) - ((p + 4 : Nat) : Int) < len3 s p
    · rw [if_pos hlong] at h
      cases h
    rw [if_neg hlong] at h ⊢
    have hn := len3_in s p
    have hb : (body s p).size = (len3 s p).toNat := by
      unfold body
      rw [ByteArray.size_extract]
      omega
    unfold nxt at h ⊢
    by_cases hbad : bad l (com c (typ s p)) (typ s p) = true
    · rw [if_pos hbad] at h
      cases h
    rw [if_neg hbad] at h ⊢
    by_cases hl : l.length = 1024
    · rw [if_pos hl] at h
      cases h
    rw [if_neg hl] at h ⊢
    by_cases hc : checkF (typ s p) (body s p) = 0
    · rw [if_pos hc] at h ⊢
      by_cases hla : 127 < bt s (p : Nat)
      · rw [if_pos hla] at h ⊢
        refine ⟨[⟨typ s p, body s p⟩], rfl, ?_, ?_⟩
        · simp only [tl, List.map_cons, List.map_nil, List.sum_cons, List.sum_nil, hb]
          omega
        · simp only [tl, List.map_cons, List.map_nil, List.sum_cons, List.sum_nil, hb]
          omega
      · rw [if_neg hla] at h ⊢
        obtain ⟨x, h1, h2, h3⟩ := prs_tot s d _ _ _ h
        refine ⟨⟨typ s p, body s p⟩ :: x, by rw [h1, List.append_assoc]; rfl, ?_, ?_⟩
        · rw [h2]
          simp only [tl, List.map_cons, List.sum_cons, hb]
          omega
        · simp only [tl, List.map_cons, List.sum_cons, hb] at h3 ⊢
          omega
    · rw [if_neg hc] at h
      exact absurd h hc
def ptx (b : S36) (last : Bool) : ByteArray := (strOfNums [hd b last] ++ strOfNums (leL 3 (b.f1.size : Int)).reverse) ++ b.f1
theorem bytesOf_append (a b : ByteArray) : bytesOf (a ++ b) = bytesOf a ++ bytesOf b := by
  simp [bytesOf]
theorem ptx_bytes (b : S36) (last : Bool) (h : 0 ≤ hd b last ∧ hd b last < 256) : bytesOf (ptx b last) = prt b last := by
  unfold ptx prt
  rw [bytesOf_append, bytesOf_append, be3_bytes, bytesOf_strOfNums [hd b last] (by intro x hx; rw [List.mem_singleton] at hx; subst hx; exact h)]
  simp
theorem ptx_size (b : S36) (last : Bool) : (ptx b last).size = 4 + b.f1.size := by
  unfold ptx
  rw [ByteArray.size_append, ByteArray.size_append, size_nums3, size_nums3, List.length_reverse, leL_length]
  simp
def pl (l : List S36) : Nat → Nat → List ByteArray
  | 0, _ => []
  | d + 1, i => ptx (rd_T36 l i) (decide (i + 1 = l.length)) :: pl l d (i + 1)
theorem pl_length (l : List S36) : ∀ d i, (pl l d i).length = d
  | 0, _ => rfl
  | d + 1, i => by unfold pl; rw [List.length_cons, pl_length l d (i + 1)]
/-- All blocks from one on may be. -/
def allOk (l : List S36) (i : Nat) : Prop := ∀ j, i ≤ j → j < l.length → checkF (rd_T36 l j).f0 (rd_T36 l j).f1 = 0
theorem hd_in {b : S36} (h : checkF b.f0 b.f1 = 0) (last : Bool) : 0 ≤ hd b last ∧ hd b last < 256 := by
  have := check_zero h
  unfold hd
  split <;> omega
theorem bld_no (l : List S36) : ∀ (d i : Nat) (out : List Int), i + d = l.length → ¬ allOk l i → bld l d i out = none
  | 0, i, out, hi, h => absurd (fun j h1 h2 => by omega) h
  | d + 1, i, out, hi, h => by
    unfold bld
    by_cases h0 : checkF (rd_T36 l i).f0 (rd_T36 l i).f1 = 0
    · rw [if_pos h0]
      refine bld_no l d (i + 1) _ (by omega) (fun h2 => h (fun j h3 h4 => ?_))
      by_cases e : j = i
      · rw [e]; exact h0
      · exact h2 j (by omega) h4
    · rw [if_neg h0]
theorem lay_l0 (l : List S36) (hl : l.length ≤ 140737488355328 / 24) (hok : allOk l 0) : ∀ (d i : Nat) (ps : List ByteArray), i + d = l.length → ps.length = i →
    Ev (fun k => lacquerref13_Lay.l0 k l ps (i : Nat)) (ps ++ pl l d i)
  | 0, i, ps, hi, hp => by
    refine Ev.step (f := fun _ => some (ps ++ pl l 0 i)) (fun k => ?_) (Ev.now _)
    simp only [lacquerref13_Lay.l0]
    rw [if_neg (by omega)]
    simp [pl]
  | d + 1, i, ps, hi, hp => by
    have h0 := hok i (Nat.zero_le _) (by omega)
    have ih := lay_l0 l hl hok d (i + 1) (ps ++ [ptx (rd_T36 l i) (decide (i + 1 = l.length))]) (by omega) (by rw [List.length_append, List.length_singleton]; omega)
    rw [List.append_assoc] at ih
    unfold pl
    rw [List.singleton_append] at ih
    generalize hb : rd_T36 l i = b at ih h0 ⊢
    obtain ⟨ht0, ht1, hz⟩ := check_zero h0
    have hbe := Be.BeR_ev (b.f1.size : Int) 3 (by omega)
    rw [be3 _ hz] at hbe
    have hlast : wrap64 ((l.length : Int) - 1) = (l.length : Int) - 1 := w64 _ (by omega) (by omega)
    have hnext : wrap64 ((i : Int) + 1) = ((i + 1 : Nat) : Int) := by rw [w64 _ (by omega) (by omega)]; rfl
    have h127 : Go.bits .and .i64 b.f0 127 = b.f0 := by rw [and_64]; omega
    have h255 : wrap64 (b.f0 + 128) % 256 = b.f0 + 128 := by rw [w64 _ (by omega) (by omega)]; omega
    have hs1 : (strOfNums [b.f0 + 128]).size = 1 := size_nums3 _
    have hs2 : (strOfNums [b.f0]).size = 1 := size_nums3 _
    have hs3 : (strOfNums (leL 3 (b.f1.size : Int)).reverse).size = 3 := by rw [size_nums3, List.length_reverse, leL_length]
    have key : ∀ k, lacquerref13_Lay.l0 (k + 1) l ps (i : Nat) = if (i : Int) = (l.length : Int) - 1 then
        ((lacquerref02_Be.f k (b.f1.size : Int) 3).bind fun e => ((some [b.f0 + 128]).bind fun y => if (strOfNums y).size + e.1.size ≤ 9223372036854775807 then (if ((strOfNums y) ++ e.1).size + b.f1.size ≤ 9223372036854775807 then (if ps.length < 8796093022208 then lacquerref13_Lay.l0 k l (ps ++ [((strOfNums y) ++ e.1) ++ b.f1]) ((i + 1 : Nat) : Int) else none) else none) else none))
        else ((lacquerref02_Be.f k (b.f1.size : Int) 3).bind fun e => ((some [b.f0]).bind fun y => if (strOfNums y).size + e.1.size ≤ 9223372036854775807 then (if ((strOfNums y) ++ e.1).size + b.f1.size ≤ 9223372036854775807 then (if ps.length < 8796093022208 then lacquerref13_Lay.l0 k l (ps ++ [((strOfNums y) ++ e.1) ++ b.f1]) ((i + 1 : Nat) : Int) else none) else none) else none)) := fun k => by
      simp only [lacquerref13_Lay.l0]
      rw [if_pos (by omega), if_pos (by omega), hb, hlast, hnext, h127, h255, show b.f0 % 256 = b.f0 by omega]
    refine Ev.step key ?_
    by_cases hi1 : i + 1 = l.length
    · refine Ev.congr (fun k => if_pos (by omega)) (Ev.bind hbe (Ev.congr (fun k => ?_) ih))
      rw [Option.bind_some, if_pos (by rw [hs1, hs3]; decide), if_pos (by rw [ByteArray.size_append, hs1, hs3]; omega), if_pos (by omega)]
      unfold ptx hd
      rw [decide_eq_true hi1]
      rfl
    · refine Ev.congr (fun k => if_neg (by omega)) (Ev.bind hbe (Ev.congr (fun k => ?_) ih))
      rw [Option.bind_some, if_pos (by rw [hs2, hs3]; decide), if_pos (by rw [ByteArray.size_append, hs2, hs3]; omega), if_pos (by omega)]
      unfold ptx hd
      rw [decide_eq_false hi1]
      rfl
end Go.Proofs.Ytgihacaegmpggaa.Plain

/- The plain law of layer 13: the reference's Build; what was built is read as it was, what was read is built as it was. -/
namespace Go.Proofs.Ytgihacaegmpggaa.Plain
open Go.RowKit Go.Proofs.Ytgihacaegmpggaa Go.Proofs.Ytgihacaegmpggaa.R Go.Proofs.Ytgihacaegmpggaa.Be Go.Proofs.YtgihacaegmpggaaW.PrintWords Go.Proofs.YtgihacaegmpggaaW.PrintLast Go.Proofs.YtgihacaegmpggaaW.PrintMore
set_option linter.unusedVariables false
set_option linter.unusedSimpArgs false

/-- The bytes of the blocks from one on. -/
def pr (l : List S36) : Nat → Nat → List Int
  | 0, _ => []
  | d + 1, i => prt (rd_T36 l i) (decide (i + 1 = l.length)) ++ pr l d (i + 1)
theorem pr_length (l : List S36) : ∀ d i, (pr l d i).length = tot l d i
  | 0, _ => rfl
  | d + 1, i => by
    unfold pr tot
    rw [List.length_append, prt_length, pr_length l d (i + 1)]
theorem rd_of (l : List S36) (i : Nat) (h : i < l.length) : rd_T36 l i = l[i] := by simp [rd_T36, h]
theorem tot_tl (l : List S36) : ∀ d i, i + d = l.length → tot l d i = tl (l.drop i)
  | 0, i, h => by
    rw [List.drop_eq_nil_of_le (by omega)]
    rfl
  | d + 1, i, h => by
    have hlt : i < l.length := by omega
    unfold tot
    rw [tot_tl l d (i + 1) (by omega), rd_of l i hlt, List.drop_eq_getElem_cons hlt]
    simp only [tl, List.map_cons, List.sum_cons]
theorem bld_pr (l : List S36) : ∀ (d i : Nat) (out : List Int), i + d = l.length → allOk l i → bld l d i out = some (out ++ pr l d i)
  | 0, i, out, hi, h => by simp [bld, pr]
  | d + 1, i, out, hi, h => by
    have h0 := h i (Nat.le_refl _) (by omega)
    unfold bld pr
    rw [if_pos h0, bld_pr l d (i + 1) _ (by omega) (fun j h1 h2 => h j (by omega) h2), List.append_assoc]
theorem pl_pr (l : List S36) : ∀ (d i : Nat), i + d = l.length → allOk l i → (pl l d i).flatMap bytesOf = pr l d i
  | 0, i, hi, h => rfl
  | d + 1, i, hi, h => by
    have h0 := h i (Nat.le_refl _) (by omega)
    unfold pl pr
    rw [List.flatMap_cons, ptx_bytes _ _ (hd_in h0 _), pl_pr l d (i + 1) (by omega) (fun j h1 h2 => h j (by omega) h2)]
theorem pl_sizes (l : List S36) : ∀ (d i : Nat), ((pl l d i).map ByteArray.size).sum = tot l d i
  | 0, i => rfl
  | d + 1, i => by
    unfold pl tot
    rw [List.map_cons, List.sum_cons, ptx_size, pl_sizes l d (i + 1)]

theorem out_length (l : List S36) : (pr l l.length 0).length = tl l := by
  rw [pr_length, tot_tl l l.length 0 (by omega), List.drop_zero]
end Go.Proofs.Ytgihacaegmpggaa.Plain

/- The plain law of layer 13: the reference's Build comes to the same; MetaBack. -/
namespace Go.Proofs.Ytgihacaegmpggaa.Plain
open Go.RowKit Go.Proofs.Ytgihacaegmpggaa Go.Proofs.Ytgihacaegmpggaa.R Go.Proofs.Ytgihacaegmpggaa.Be Go.Proofs.YtgihacaegmpggaaW.PrintWords Go.Proofs.YtgihacaegmpggaaW.PrintLast Go.Proofs.YtgihacaegmpggaaW.PrintMore
set_option linter.unusedVariables false
set_option linter.unusedSimpArgs false

def xfin (l : List S36) (out : List Int) : ByteArray × Int :=
  if (parseF (strOfNums out)).2.2 = 0 then (if (parseF (strOfNums out)).2.1 = (out.length : Int) then (if sameB l (parseF (strOfNums out)).1 = true then (strOfNums out, 0) else (⟨#[]⟩, 60)) else (⟨#[]⟩, 60)) else (⟨#[]⟩, 60)
theorem xfin_eq (l : List S36) (out : List Int) (ho : out.length = tl l) : xfin l out = fin_ l (some out) := by
  unfold xfin fin_
  by_cases h0 : (parseF (strOfNums out)).2.2 = 0
  · simp only [h0, if_true]
    by_cases h1 : sameB l (parseF (strOfNums out)).1 = true
    · have e := sameB_eq h1
      obtain ⟨x, h2, h3, h4⟩ := prs_tot (strOfNums out) _ _ _ _ h0
      have h2' : (parseF (strOfNums out)).1 = x := by rw [List.nil_append] at h2; exact h2
      have hx : x = l := by rw [← h2', ← e]
      have h3' : (parseF (strOfNums out)).2.1 = ((0 + tl x : Nat) : Int) := h3
      rw [if_pos (by rw [h3', hx, ho, Nat.zero_add])]
    · simp only [h1]
      split <;> rfl
  · simp only [h0, if_false]
theorem xb_end (l : List S36) (hl : l.length ≤ 140737488355328) (ps : List ByteArray) (out : List Int) (ho : out.length < 140737488355328) : Ev (fun k => lacquerref13_Build.l1 k l out ps (ps.length : Nat)) (xfin l out) := by
  refine Ev.step (f := fun k => (lacquerref13_Parse.f k (strOfNums out)).bind fun m => if m.2.2 = 0 then (if m.2.1 = (out.length : Int) then ((lacquerref13_Same.f k l m.1).bind fun q => if q = true then some (strOfNums out, 0) else some (⟨#[]⟩, 60)) else some (⟨#[]⟩, 60)) else some (⟨#[]⟩, 60)) (fun k => ?_) ?_
  · simp only [lacquerref13_Build.l1]
    rw [if_neg (by omega)]
  · refine Ev.bind (xparse_ev (strOfNums out) (by rw [size_nums3]; omega)) ?_
    rw [show xfin l out = (if (parseF (strOfNums out)).2.2 = 0 then (if (parseF (strOfNums out)).2.1 = (out.length : Int) then (if sameB l (parseF (strOfNums out)).1 = true then (strOfNums out, 0) else (⟨#[]⟩, 60)) else (⟨#[]⟩, 60)) else (⟨#[]⟩, 60)) from rfl]
    by_cases h0 : (parseF (strOfNums out)).2.2 = 0
    · rw [show ∀ (a b : ByteArray × Int), (if (parseF (strOfNums out)).2.2 = 0 then a else b) = a from fun a b => if_pos h0]
      refine Ev.congr (fun k => if_pos h0) ?_
      by_cases h1 : (parseF (strOfNums out)).2.1 = (out.length : Int)
      · rw [show ∀ (a b : ByteArray × Int), (if (parseF (strOfNums out)).2.1 = (out.length : Int) then a else b) = a from fun a b => if_pos h1]
        refine Ev.congr (fun k => if_pos h1) ?_
        refine Ev.bind (same_ev l _ hl) ?_
        cases sameB l (parseF (strOfNums out)).1
        · exact Ev.now _
        · exact Ev.now _
      · rw [show ∀ (a b : ByteArray × Int), (if (parseF (strOfNums out)).2.1 = (out.length : Int) then a else b) = b from fun a b => if_neg h1]
        exact Ev.congr (f := fun _ => some (⟨#[]⟩, 60)) (fun k => if_neg h1) (Ev.now _)
    · rw [show ∀ (a b : ByteArray × Int), (if (parseF (strOfNums out)).2.2 = 0 then a else b) = b from fun a b => if_neg h0]
      exact Ev.congr (f := fun _ => some (⟨#[]⟩, 60)) (fun k => if_neg h0) (Ev.now _)
theorem xb_l1 (l : List S36) (hl : l.length ≤ 140737488355328) (ps : List ByteArray) (hp : ps.length ≤ 140737488355328) : ∀ (d i : Nat) (out : List Int), i + d = ps.length → out.length + ((ps.drop i).map ByteArray.size).sum < 140737488355328 →
    Ev (fun k => lacquerref13_Build.l1 k l out ps (i : Nat)) (xfin l (out ++ (ps.drop i).flatMap bytesOf))
  | 0, i, out, hi, ht => by
    obtain rfl : i = ps.length := by omega
    rw [List.drop_length]
    simp only [List.flatMap_nil, List.append_nil]
    exact xb_end l hl ps out (by omega)
  | d + 1, i, out, hi, ht => by
    have hlt : i < ps.length := by omega
    rw [List.drop_eq_getElem_cons hlt, List.map_cons, List.sum_cons] at ht
    have hrd : rdOf ByteArray.empty ps (i : Nat) = ps[i] := by simp [rdOf, hlt]
    have ih := xb_l1 l hl ps hp d (i + 1) (out ++ bytesOf ps[i]) (by omega) (by rw [List.length_append, bytesOf_length]; omega)
    rw [List.drop_eq_getElem_cons hlt, List.flatMap_cons, ← List.append_assoc]
    refine Ev.step (fun k => ?_) ih
    simp only [lacquerref13_Build.l1]
    rw [if_pos (by omega), if_pos (by omega), hrd, if_pos (by omega), w64 _ (by omega) (by omega)]
    rfl
theorem xb_l0 (l : List S36) (hl : l.length ≤ 140737488355328 / 24) (ht : tl l < 140737488355328) : ∀ (d i : Nat), i + d = l.length → (∀ j, j < i → checkF (rd_T36 l j).f0 (rd_T36 l j).f1 = 0) →
    Ev (fun k => lacquerref13_Build.l0 k l (i : Nat)) (buildF l)
  | 0, i, hi, hok => by
    obtain rfl : i = l.length := by omega
    have hok2 : allOk l 0 := fun j _ hj => hok j hj
    have hb : buildF l = xfin l ((pl l l.length 0).flatMap bytesOf) := by
      unfold buildF
      rw [bld_pr l l.length 0 [] (by omega) hok2, List.nil_append, pl_pr l l.length 0 (by omega) hok2, xfin_eq l _ (out_length l)]
    rw [hb]
    have hsum := pl_sizes l l.length 0
    rw [tot_tl l l.length 0 (by omega), List.drop_zero] at hsum
    have h1 := xb_l1 l (by omega) (pl l l.length 0) (by rw [pl_length]; omega) (pl l l.length 0).length 0 [] (by omega) (by rw [List.drop_zero, hsum]; simpa using ht)
    rw [List.drop_zero, List.nil_append] at h1
    have h2 : Ev (fun k => lacquerref13_Lay.f k l) (pl l l.length 0) := lay_l0 l hl hok2 l.length 0 [] (by omega) rfl
    refine Ev.step (f := fun k => (lacquerref13_Lay.f k l).bind fun t => lacquerref13_Build.l1 k l ([] : List Int) t 0) (fun k => ?_) (Ev.bind h2 h1)
    simp only [lacquerref13_Build.l0]
    rw [if_neg (by omega)]
  | d + 1, i, hi, hok => by
    refine Ev.step (f := fun k => (lacquerref13_Check.f k (rd_T36 l (i : Nat)).f0 (rd_T36 l (i : Nat)).f1).bind fun t => if t = 0 then lacquerref13_Build.l0 k l ((i + 1 : Nat) : Int) else some (⟨#[]⟩, 60)) (fun k => ?_) (Ev.bind (xcheck_ev _ _) ?_)
    · simp only [lacquerref13_Build.l0]
      rw [if_pos (by omega), if_pos (by omega), w64 _ (by omega) (by omega)]
      rfl
    · by_cases h0 : checkF (rd_T36 l (i : Nat)).f0 (rd_T36 l (i : Nat)).f1 = 0
      · refine Ev.congr (fun k => if_pos h0) (xb_l0 l hl ht d (i + 1) (by omega) (fun j hj => ?_))
        by_cases e : j = i
        · rw [e]; exact h0
        · exact hok j (by omega)
      · have hb : buildF l = (⟨#[]⟩, 60) := by
          unfold buildF
          rw [bld_no l l.length 0 [] (by omega) (fun h => h0 (h i (by omega) (by omega)))]
          rfl
        rw [hb]
        exact Ev.congr (f := fun _ => some (⟨#[]⟩, 60)) (fun k => if_neg h0) (Ev.now _)
theorem xbuild_ev (l : List S36) (hl : l.length ≤ 140737488355328 / 24) (ht : tl l < 140737488355328) : Ev (fun k => lacquerref13_Build.f k l) (buildF l) :=
  xb_l0 l hl ht l.length 0 (by omega) (fun j hj => absurd hj (by omega))
theorem build_ev2 (l : List S36) (hl : l.length ≤ 140737488355328 / 24) (ht : tl l < 140737488355328) : Ev (fun k => meta_Build.f k l) (buildF l) :=
  build_ev l (by omega) (by rw [tot_tl l l.length 0 (by omega), List.drop_zero]; exact ht)
end Go.Proofs.Ytgihacaegmpggaa.Plain

/- The laws MetaBuilds and MetaBack of layer 13, as contracts. -/
namespace Go.Proofs.Ytgihacaegmpggaa.Plain
open Go.RowKit Go.Proofs.Ytgihacaegmpggaa Go.Proofs.Ytgihacaegmpggaa.R Go.Proofs.Ytgihacaegmpggaa.Be Go.Proofs.YtgihacaegmpggaaW.PrintWords Go.Proofs.YtgihacaegmpggaaW.PrintLast Go.Proofs.YtgihacaegmpggaaW.PrintMore
set_option linter.unusedVariables false
set_option linter.unusedSimpArgs false

theorem bulk_le {l : List S36} {z : S36 → Nat} {m : Nat} (h : (l.map z).sum + 1 ≤ m) (hz : ∀ b, b.f1.size + 3 ≤ z b) : l.length ≤ m ∧ tl l ≤ 2 * m := by
  have key : ∀ l : List S36, l.length ≤ (l.map z).sum ∧ tl l ≤ 2 * (l.map z).sum := by
    intro l
    induction l with
    | nil => exact ⟨Nat.le_refl _, Nat.zero_le _⟩
    | cons b r ih =>
      have := hz b
      simp only [tl, List.map_cons, List.sum_cons, List.length_cons] at ih ⊢
      omega
  have := key l
  omega
theorem info36 : (Try.prog.info? 36).map (fun i => (i.zero, i.size, i.bytes)) = some (some (.agg #[.int .i64 0, .string ⟨#[]⟩]), 2, 24) := by kernel_rfl
section
variable {ops : Array Oper} {o : Oper} {a : Act} {Q : Exit → Act → World → Prop} {rest : List Oper}
/-- A copy of a list of blocks. -/
theorem copy_blocks {W : World} (x : Operand) {ys : List S36} {A : Option Addr} {c : Nat} (hgd : o.guard = none)
    (ho : o.op = .call { callee := .builtin .append, args := #[.const (.slice none 0 0), x], argTypes := #[40, 40] }) (hx : a.eval x = .slice A ys.length c)
    (HC : Kd.C k36 W A ys.length ys) (hl : ys.length ≤ 1048576)
    (h : ∀ A1 c1 w1, ys.length ≤ c1 → Aside0 (Kd.C k36 w1 A1 ys.length ys) → Aside0 (Below W.heap.size W w1) → wpList Try.prog ops Q rest (a.put o.dst (.slice A1 ys.length c1)) w1) :
    wpList Try.prog ops Q (o :: rest) a W :=
  Kd.R_append_rows k36 (w0 := W) W.heap.size hgd (.const (.slice none 0 0)) x 40 36 (.agg #[.int .i64 0, .string ⟨#[]⟩]) 24 ho Try.underlying40 info36 rfl (by decide) (by decide) (.slice none 0 0) [] ys A ys.length c (fun _ => True) (fun _ => False) rfl hx
    (Kd.R_nil _ _ _ _ _) HC (fun y cs hy => by rw [k36_open hy]; exact k36_mkM _ _ _ _) (fun _ hk => hk.elim) (fun _ _ => trivial) (Below.refl _ _) (Nat.le_refl _) (by simp; omega)
    (fun v1 w1 h1 h2 _ _ => by
      obtain ⟨A1, c1, e, hc, hC⟩ := Kd.R_reads h1
      subst e
      exact h A1 c1 w1 hc ⟨hC⟩ ⟨h2⟩)
end
set_option maxHeartbeats 8000000 in
set_option maxRecDepth 100000 in
theorem Builds_any (l : List S36) (A : Option Addr) (c : Nat) (w : World) (hA : Kd.C k36 w A l.length l) (hc : l.length ≤ c) (hl : l.length ≤ 1048576) (ht : tl l ≤ 2097152) :
    Calls Try.prog 6 #[.slice A l.length c] w fun e w' => e = .returned (.bool true) ∧ Below w.heap.size w w' := by
  obtain ⟨k1, hk1⟩ := (build_ev2 l (by omega) (by omega)).rounds
  obtain ⟨k2, hk2⟩ := (xbuild_ev l (by omega) (by omega)).rounds
  obtain ⟨k3, hk3⟩ := awake_ev.rounds
  generalize hb : buildF l = b at hk1 hk2
  clear hb
  obtain ⟨S, E⟩ := b
  have HA := Aside0.mk hA
  have HK1 := Aside0.mk hk1
  have HK2 := Aside0.mk hk2
  have HK3 := Aside0.mk hk3
  clear hA hk1 hk2 hk3 ht
  go_enter Try.func6, Try.ntmps6
  go_wp2_with (at_builtin; (with_reducible refine copy_blocks (.tmp 8) (ys := l) (A := A) (c := c) ?_ ?_ ?_ ?_ ?_ ?_); rfl; rfl; rfl; exact HA.out; omega; intro A1 c1 w1 hc1 HC1 HB1)
  with_reducible refine (meta_Build.calls k1 A1 c1 l S E w1 HC1.out hc1 HK1.out).mono ?_
  rintro e w2 ⟨rfl, hB⟩
  have HB2 := Aside0.mk (HB1.out.trans (hB.mono HB1.out.size))
  clear hB HB1 HC1 HK1
  go_wp2_with fail
  with_reducible refine (lacquerref13_Build.calls k2 A c l S E w2 (Kd.C_below HA.out HB2.out) hc HK2.out).mono ?_
  rintro e w3 ⟨rfl, hB⟩
  have HB3 := Aside0.mk (HB2.out.trans (hB.mono HB2.out.size))
  clear hB HB2 HK2
  go_wp2_with fail
  with_reducible refine (lacquerlaw13_awake.calls k3 true w3 HK3.out).mono ?_
  rintro e w4 ⟨rfl, hB⟩
  have HB4 := Aside0.mk (HB3.out.trans (hB.mono HB3.out.size))
  clear hB HB3
  go_wp2
  go_ret
  exact ⟨rfl, HB4.out⟩
end Go.Proofs.Ytgihacaegmpggaa.Plain
