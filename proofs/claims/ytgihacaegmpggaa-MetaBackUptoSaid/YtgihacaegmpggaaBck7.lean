/- Texts of this claim's proof, laid behind each other by a program of ours, without what the proof does not reach: The plain law of layer 13: which blocks may be; a text as blocks; The plain law of layer 13: awake; which blocks may be; Printed by a program of ours (pp.sh), partly over contracts proved by hand; The plain law of layer 13: a text as blocks; The plain law of layer 13: two lists of blocks; MetaParses; The plain law of layer 13: blocks as a text; Printed by a program of ours (pp.sh), partly over contracts proved by hand; Printed by a program of ours (pp.sh), partly over contracts proved by hand; The plain law of layer 13: blocks as a text, the reference; The plain law of layer 13: the reference's Build; what was built is read as it was, what was read is built as it was; The plain law of layer 13: the reference's Build comes to the same; MetaBack; The laws MetaBuilds and MetaBack of layer 13, as contracts -/
import Derived.Test.YtgihacaegmpggaaBck1
import Derived.Test.YtgihacaegmpggaaBck2
import Derived.Test.YtgihacaegmpggaaBck3
import Derived.Test.YtgihacaegmpggaaBck4
import Derived.Test.YtgihacaegmpggaaBck5
import Derived.Test.YtgihacaegmpggaaBck6
/- The plain law of layer 13: which blocks may be; a text as blocks. -/
namespace Go.Proofs.Ytgihacaegmpggaa.Plain
open Go.RowKit Go.Proofs.Ytgihacaegmpggaa Go.Proofs.Ytgihacaegmpggaa.R Go.Proofs.Ytgihacaegmpggaa.Be Go.Proofs.YtgihacaegmpggaaW.PrintWords Go.Proofs.YtgihacaegmpggaaW.PrintLast Go.Proofs.YtgihacaegmpggaaW.PrintMore
set_option linter.unusedVariables false
set_option linter.unusedSimpArgs false

def checkF (t : Int) (b : ByteArray) : Int :=
  if t < 0 then 2 else if 126 < t then 2 else if 16777216 ≤ b.size then 2 else if t = 0 then (Hand.infoF b).2 else if t = 2 then (if 4 ≤ b.size then 0 else 2) else if t = 3 then (if b.size % 18 = 0 then 0 else 2)
  else if t = 5 then (if tracksF b = true then 0 else 2) else if t = 6 then (if imageF b = true then 0 else 2) else 0
theorem flat_last (p : Hand.Inf × Int) : (Hand.flatI p).2.2.2.2.2.2.2.2.2 = p.2 := by
  obtain ⟨⟨_, _, _, _, _, _, _, _, _⟩, _⟩ := p
  rfl
def checkG (t : Int) (b : ByteArray) : Int :=
  if t = 0 then (Hand.infoF b).2 else if t = 2 then (if 4 ≤ b.size then 0 else 2) else if t = 3 then (if b.size % 18 = 0 then 0 else 2)
  else if t = 5 then (if tracksF b = true then 0 else 2) else if t = 6 then (if imageF b = true then 0 else 2) else 0
theorem check_j0 (t : Int) (b : ByteArray) (hs : b.size ≤ 140737488355328) : Ev (fun k => meta_Check.j0 k false t b) (checkG t b) := by
  unfold checkG
  by_cases h0 : t = 0
  · subst h0
    rw [if_pos rfl]
    refine Ev.step (f := fun _ => some (Hand.infoF b).2) (fun k => ?_) (Ev.now _)
    simp only [meta_Check.j0]
    rw [if_neg (by decide), if_pos trivial]
    show some (Hand.flatI (Hand.infoF b)).2.2.2.2.2.2.2.2.2 = _
    rw [flat_last]
  rw [if_neg h0]
  by_cases h2 : t = 2
  · subst h2
    rw [if_pos rfl]
    refine Ev.step (f := fun _ => some (if 4 ≤ b.size then 0 else 2)) (fun k => ?_) (Ev.now _)
    simp only [meta_Check.j0]
    rw [if_neg (by decide), if_neg (by decide), if_pos trivial]
    by_cases h : 4 ≤ b.size
    · rw [if_pos h, if_pos (by omega)]
    · rw [if_neg h, if_neg (by omega)]
  rw [if_neg h2]
  by_cases h3 : t = 3
  · subst h3
    rw [if_pos rfl]
    refine Ev.step (f := fun _ => some (if b.size % 18 = 0 then 0 else 2)) (fun k => ?_) (Ev.now _)
    simp only [meta_Check.j0]
    rw [if_neg (by decide), if_neg (by decide), if_neg (by decide), if_pos trivial]
    by_cases h : b.size % 18 = 0
    · rw [if_pos h, if_pos (by omega)]
    · rw [if_neg h, if_neg (by omega)]
  rw [if_neg h3]
  by_cases h5 : t = 5
  · subst h5
    rw [if_pos rfl]
    refine Ev.step (f := fun k => (meta_tracks.f k b).bind fun q => if q = true then some 0 else some 2) (fun k => ?_) ?_
    · simp only [meta_Check.j0]
      rw [if_neg (by decide), if_neg (by decide), if_neg (by decide), if_neg (by decide), if_pos trivial]
    · refine Ev.bind (tracks_ev b hs) ?_
      cases tracksF b
      · exact Ev.now _
      · exact Ev.now _
  rw [if_neg h5]
  by_cases h6 : t = 6
  · subst h6
    rw [if_pos rfl]
    refine Ev.step (f := fun k => (meta_image.f k b).bind fun q => if q = true then some 0 else some 2) (fun k => ?_) ?_
    · simp only [meta_Check.j0]
      rw [if_neg (by decide), if_neg (by decide), if_neg (by decide), if_neg (by decide), if_neg (by decide), if_pos trivial]
    · refine Ev.bind (image_ev b hs) ?_
      cases imageF b
      · exact Ev.now _
      · exact Ev.now _
  rw [if_neg h6]
  have hj : ∀ q, Ev (fun k => meta_Check.j1 k true q) 0 := fun q => by
    refine Ev.step (f := fun _ => some 0) (fun k => ?_) (Ev.now _)
    simp only [meta_Check.j1]
    cases q <;> rfl
  by_cases h1 : t = 1
  · refine Ev.step (fun k => ?_) (hj (t == 1))
    simp only [meta_Check.j0]
    rw [if_neg (by decide), if_neg h0, if_neg h2, if_neg h3, if_neg h5, if_neg h6, if_pos h1]
  · refine Ev.step (fun k => ?_) (hj (t == 4))
    simp only [meta_Check.j0]
    rw [if_neg (by decide), if_neg h0, if_neg h2, if_neg h3, if_neg h5, if_neg h6, if_neg h1]
theorem check_ev (t : Int) (b : ByteArray) : Ev (fun k => meta_Check.f k t b) (checkF t b) := by
  have hno : Ev (fun k => meta_Check.j0 k true t b) 2 := Ev.step (f := fun _ => some 2) (fun k => by simp only [meta_Check.j0]; rw [if_pos trivial]) (Ev.now _)
  unfold checkF
  by_cases h0 : t < 0
  · rw [if_pos h0]
    exact Ev.congr (fun k => by unfold meta_Check.f; rw [if_pos h0]) hno
  rw [if_neg h0]
  by_cases h1 : 126 < t
  · rw [if_pos h1]
    exact Ev.congr (fun k => by unfold meta_Check.f; rw [if_neg h0, if_pos h1]) hno
  rw [if_neg h1]
  by_cases h2 : 16777216 ≤ b.size
  · rw [if_pos h2]
    exact Ev.congr (fun k => by unfold meta_Check.f; rw [if_neg h0, if_neg h1, decide_eq_true (by omega)]) hno
  rw [if_neg h2]
  exact Ev.congr (fun k => by unfold meta_Check.f; rw [if_neg h0, if_neg h1, decide_eq_false (by omega)]) (check_j0 t b (by omega))
end Go.Proofs.Ytgihacaegmpggaa.Plain

/- The plain law of layer 13: awake; which blocks may be. -/
namespace Go.Proofs.Ytgihacaegmpggaa.Plain
open Go.RowKit Go.Proofs.Ytgihacaegmpggaa Go.Proofs.Ytgihacaegmpggaa.R Go.Proofs.Ytgihacaegmpggaa.Be Go.Proofs.YtgihacaegmpggaaW.PrintWords Go.Proofs.YtgihacaegmpggaaW.PrintLast Go.Proofs.YtgihacaegmpggaaW.PrintMore
set_option linter.unusedVariables false
set_option linter.unusedSimpArgs false

theorem awake_ok : lacquerlaw13_awake.f 60 = some true := by decide +kernel
theorem awake_ev : Ev (fun k => lacquerlaw13_awake.f k) true := Ev.of lacquerlaw13_awake.mono awake_ok
end Go.Proofs.Ytgihacaegmpggaa.Plain

/- Printed by a program of ours (pp.sh), partly over contracts proved by hand. -/
namespace Go.Proofs.Ytgihacaegmpggaa.R
open Go.RowKit Go.Proofs.YtgihacaegmpggaaW.PrintWords Go.Proofs.YtgihacaegmpggaaW.PrintLast Go.Proofs.YtgihacaegmpggaaW.PrintMore
attribute [local go_sem] max2_int min2_int max_two min_two max_three min_three max_four min_four   -- for this text's walks alone
set_option linter.unusedVariables false
set_option linter.unusedSimpArgs false

/-! ### lacquerref13_Parse: function 16 -/

/-! ### lacquerlaw13_MetaParses: function 5 -/

/-! ### lacquerref02_fits: function 51 -/

/-! ### lacquerref02_Be: function 49 -/

end Go.Proofs.Ytgihacaegmpggaa.R

/- The plain law of layer 13: a text as blocks. -/
namespace Go.Proofs.Ytgihacaegmpggaa.Plain
open Go.RowKit Go.Proofs.Ytgihacaegmpggaa Go.Proofs.Ytgihacaegmpggaa.R Go.Proofs.Ytgihacaegmpggaa.Be Go.Proofs.YtgihacaegmpggaaW.PrintWords Go.Proofs.YtgihacaegmpggaaW.PrintLast Go.Proofs.YtgihacaegmpggaaW.PrintMore
set_option linter.unusedVariables false
set_option linter.unusedSimpArgs false

theorem and_fin : ∀ c : Fin 256, Go.bits .and .u8 (c.val : Int) 127 = (c.val : Int) % 128 := by decide +kernel
theorem and_u8 (x : Int) (h : 0 ≤ x ∧ x ≤ 255) : wrap64 (Go.bits .and .u8 x 127) = x % 128 := by
  obtain ⟨c, hc⟩ : ∃ c : Fin 256, x = (c.val : Int) := ⟨⟨x.toNat, by omega⟩, by simp; omega⟩
  rw [hc, and_fin c, w64 _ (by omega) (by omega)]

def typ (s : ByteArray) (p : Nat) : Int := bt s (p : Nat) % 128
def len3 (s : ByteArray) (p : Nat) : Int := fbR (s.extract (p + 1) (p + 4))
def body (s : ByteArray) (p : Nat) : ByteArray := s.extract (p + 4) (p + 4 + (len3 s p).toNat)
def com (c t : Int) : Int := if t = 4 then c + 1 else c
def bad (l : List S36) (c t : Int) : Bool := decide (t = 127) || (decide (1 < c) || (decide (l.length = 0) != decide (t = 0)))
/-- What follows behind a block's head. -/
def nxt (l : List S36) (c t : Int) (b : ByteArray) (r : List S36 × Int × Int) : List S36 × Int × Int :=
  if bad l c t = true then ([], 0, 2) else if l.length = 1024 then ([], 0, 5) else if checkF t b = 0 then r else ([], 0, checkF t b)
def prs (s : ByteArray) : Nat → List S36 → Nat → Int → List S36 × Int × Int
  | 0, _, _, _ => ([], 0, 2)
  | d + 1, l, p, c =>
    if s.size < p + 4 then ([], 0, 2)
    else if (s.size : Int) - ((p + 4 : Nat) : Int) < len3 s p then ([], 0, 2)
    else nxt l (com c (typ s p)) (typ s p) (body s p)
      (if 127 < bt s (p : Nat) then (l ++ [⟨typ s p, body s p⟩], ((p + 4 + (len3 s p).toNat : Nat) : Int), 0)
       else prs s d (l ++ [⟨typ s p, body s p⟩]) (p + 4 + (len3 s p).toNat) (com c (typ s p)))
theorem eq0 (n : Nat) : ((n : Int) == 0) = decide (n = 0) := by rw [Bool.eq_iff_iff]; simp
theorem eqz (t : Int) : (t == 0) = decide (t = 0) := by rw [Bool.eq_iff_iff]; simp
theorem parse_j3 (s : ByteArray) (l : List S36) (rest : ByteArray) (last : Bool) (c t : Int) (b : ByteArray) (flag : Bool) (hl : l.length ≤ 1024) (r : List S36 × Int × Int)
    (hnext : flag = false → l.length ≠ 1024 → checkF t b = 0 → Ev (fun k => meta_Parse.l0 k s (l ++ [⟨t, b⟩]) rest last c) r) :
    Ev (fun k => meta_Parse.j3 k s l rest last c flag t b) (if flag = true then ([], 0, 2) else if l.length = 1024 then ([], 0, 5) else if checkF t b = 0 then r else ([], 0, checkF t b)) := by
  by_cases hf : flag = true
  · rw [if_pos hf]
    refine Ev.step (f := fun _ => some ([], 0, 2)) (fun k => ?_) (Ev.now _)
    simp only [meta_Parse.j3]
    rw [if_pos hf]
  · rw [if_neg hf]
    by_cases h1 : l.length = 1024
    · rw [if_pos h1]
      refine Ev.step (f := fun _ => some ([], 0, 5)) (fun k => ?_) (Ev.now _)
      simp only [meta_Parse.j3]
      rw [if_neg hf, if_pos (by omega)]
    · rw [if_neg h1]
      refine Ev.step (f := fun k => (meta_Check.f k t b).bind fun q => if q = 0 then (if l.length < 5864062014805 then meta_Parse.l0 k s (l ++ [⟨t, b⟩]) rest last c else none) else some ([], 0, q)) (fun k => ?_) ?_
      · simp only [meta_Parse.j3]
        rw [if_neg hf, if_neg (by omega)]
      · refine Ev.bind (check_ev t b) ?_
        by_cases h0 : checkF t b = 0
        · rw [if_pos h0]
          refine Ev.congr (fun k => ?_) (hnext (Bool.eq_false_iff.mpr hf) h1 h0)
          show (if checkF t b = 0 then _ else _) = _
          rw [if_pos h0, if_pos (by omega)]
        · rw [if_neg h0]
          refine Ev.congr (f := fun _ => some ([], 0, checkF t b)) (fun k => ?_) (Ev.now _)
          show (if checkF t b = 0 then _ else _) = _
          rw [if_neg h0]
theorem parse_j2 (s : ByteArray) (l : List S36) (rest : ByteArray) (last : Bool) (c t : Int) (b : ByteArray) (hc : c ≤ 2) (hl : l.length ≤ 1024) (r : List S36 × Int × Int)
    (hnext : bad l c t = false → l.length ≠ 1024 → checkF t b = 0 → Ev (fun k => meta_Parse.l0 k s (l ++ [⟨t, b⟩]) rest last c) r) :
    Ev (fun k => meta_Parse.j2 k s l rest last c t b) (nxt l c t b r) := by
  have h := parse_j3 s l rest last c t b (bad l c t) hl r hnext
  refine Ev.step (fun k => ?_) h
  simp only [meta_Parse.j2]
  by_cases h1 : t = 127
  · rw [if_pos h1]
    have : bad l c t = true := by unfold bad; rw [decide_eq_true h1]; rfl
    rw [this]
  · rw [if_neg h1]
    by_cases h2 : c = 2
    · rw [if_pos h2]
      have : bad l c t = true := by unfold bad; rw [decide_eq_true (show 1 < c by omega)]; simp
      rw [this]
    · rw [if_neg h2]
      have : bad l c t = (((l.length : Int) == 0) != (t == 0)) := by
        unfold bad
        rw [decide_eq_false h1, decide_eq_false (show ¬ 1 < c by omega), eq0, eqz]
        rfl
      rw [this]
theorem parse_last (s : ByteArray) (l : List S36) (q : Nat) (c : Int) (hq : q ≤ s.size) (hs : s.size ≤ 140737488355328) : Ev (fun k => meta_Parse.l0 k s l (s.extract q s.size) true c) (l, (q : Int), 0) := by
  refine Ev.step (f := fun _ => some (l, (q : Int), 0)) (fun k => ?_) (Ev.now _)
  simp only [meta_Parse.l0]
  rw [if_pos trivial, size_tail, w64 _ (by omega) (by omega)]
  congr 3
  omega
theorem len3_in (s : ByteArray) (p : Nat) : 0 ≤ len3 s p ∧ len3 s p < 16777216 := by
  have hz : (s.extract (p + 1) (p + 4)).size ≤ 3 := by rw [ByteArray.size_extract]; omega
  have h := fb_in (s.extract (p + 1) (p + 4)) (by omega)
  have h2 : (256 : Int) ^ (s.extract (p + 1) (p + 4)).size ≤ 16777216 := by
    rcases (show (s.extract (p + 1) (p + 4)).size = 0 ∨ (s.extract (p + 1) (p + 4)).size = 1 ∨ (s.extract (p + 1) (p + 4)).size = 2 ∨ (s.extract (p + 1) (p + 4)).size = 3 by omega) with e | e | e | e <;> rw [e] <;> decide
  unfold len3
  omega
theorem parse_l0 (s : ByteArray) (hs : s.size ≤ 140737488355328) : ∀ (d p : Nat) (l : List S36) (c : Int), p ≤ s.size → s.size - p < d → c ≤ 1 → -1 ≤ c → l.length ≤ 1024 →
    Ev (fun k => meta_Parse.l0 k s l (s.extract p s.size) false c) (prs s d l p c)
  | 0, p, l, c, hp, hd, h1, h0, hl => by omega
  | d + 1, p, l, c, hp, hd, h1, h0, hl => by
    have hz := size_tail s p
    have hbad : Ev (fun k => meta_Parse.j1 k s l (s.extract p s.size) c true) ([], 0, 2) := by
      refine Ev.step (f := fun _ => some ([], 0, 2)) (fun k => ?_) (Ev.now _)
      simp only [meta_Parse.j1]
      rw [if_pos trivial]
    unfold prs
    by_cases h4 : s.size < p + 4
    · rw [if_pos h4]
      refine Ev.step (fun k => ?_) hbad
      simp only [meta_Parse.l0]
      rw [if_neg (by decide), if_pos (by rw [hz]; omega)]
    · rw [if_neg h4]
      have e14 : (s.extract p s.size).extract 1 4 = s.extract (p + 1) (p + 4) := extract_mid s p 1 4 (by omega)
      have hev : Ev (fun k => bytes_FromBe.f k (s.extract (p + 1) (p + 4))) (len3 s p) := Be.FromBe_ev _
      have hn := len3_in s p
      have hw : wrap64 (((s.extract p s.size).size : Int) - 4) = (s.size : Int) - ((p + 4 : Nat) : Int) := by rw [hz, w64 _ (by omega) (by omega)]; omega
      refine Ev.step (f := fun k => (bytes_FromBe.f k (s.extract (p + 1) (p + 4))).bind fun t => meta_Parse.j1 k s l (s.extract p s.size) c (decide (t > (s.size : Int) - ((p + 4 : Nat) : Int)))) (fun k => ?_) (Ev.bind hev ?_)
      · simp only [meta_Parse.l0]
        rw [if_neg (by decide), if_neg (by rw [hz]; omega), if_pos (by decide), if_pos (by rw [hz]; omega), e14, hw]
      · by_cases hlong : (s.size : Int) - ((p + 4 : Nat) : Int) < len3 s p
        · rw [if_pos hlong, decide_eq_true hlong]
          exact hbad
        · rw [if_neg hlong, decide_eq_false hlong]
          have hb0 : bt (s.extract p s.size) 0 = bt s (p : Nat) := bt_extract s p s.size 0 (Nat.le_refl _) (by omega)
          have hbi := bt_in s (p : Nat)
          have ht : wrap64 (Go.bits .and .u8 (bt s (p : Nat)) 127) = typ s p := and_u8 _ hbi
          have hbd : (s.extract p s.size).extract 4 (4 + (len3 s p).toNat) = body s p := by
            rw [extract_mid s p 4 (4 + (len3 s p).toNat) (by omega)]
            unfold body
            rw [Nat.add_assoc p 4]
          have hrs : (s.extract p s.size).extract (4 + (len3 s p).toNat) (s.extract p s.size).size = s.extract (p + 4 + (len3 s p).toNat) s.size := by
            rw [extract_tail s p _ hp, Nat.add_assoc p 4]
          have hq : p + 4 + (len3 s p).toNat ≤ s.size := by omega
          have ih := fun l' c' (hl' : l'.length ≤ 1024) (hc1 : c' ≤ 1) (hc0 : -1 ≤ c') => parse_l0 s hs d (p + 4 + (len3 s p).toNat) l' c' hq (by omega) hc1 hc0 hl'
          have hlast := fun l' c' => parse_last s l' (p + 4 + (len3 s p).toNat) c' hq hs
          have h4n : wrap64 (4 + len3 s p) = ((4 + (len3 s p).toNat : Nat) : Int) := by rw [w64 _ (by omega) (by omega)]; omega
          have hcm : com c (typ s p) ≤ 2 ∧ -1 ≤ com c (typ s p) := by unfold com; split <;> omega
          have hj2 := parse_j2 s l (s.extract (p + 4 + (len3 s p).toNat) s.size) (decide (127 < bt s (p : Nat))) (com c (typ s p)) (typ s p) (body s p) hcm.1 hl
            (if 127 < bt s (p : Nat) then (l ++ [⟨typ s p, body s p⟩], ((p + 4 + (len3 s p).toNat : Nat) : Int), 0) else prs s d (l ++ [⟨typ s p, body s p⟩]) (p + 4 + (len3 s p).toNat) (com c (typ s p))) (by
              intro hb hl2 _
              have hc1 : com c (typ s p) ≤ 1 := by
                unfold bad at hb
                simp at hb
                omega
              by_cases hla : 127 < bt s (p : Nat)
              · rw [if_pos hla, decide_eq_true hla]
                exact hlast _ _
              · rw [if_neg hla, decide_eq_false hla]
                exact ih _ _ (by rw [List.length_append, List.length_singleton]; omega) hc1 hcm.2)
          refine Ev.step (f := fun k => (bytes_FromBe.f k (s.extract (p + 1) (p + 4))).bind fun t => if 0 < ((s.extract p s.size).size : Int) then (if 4 ≤ wrap64 (4 + t) then (if wrap64 (4 + t) ≤ ((s.extract p s.size).size : Int) then (if 0 ≤ wrap64 (4 + t) then
              (if wrap64 (Go.bits .and .u8 (bt (s.extract p s.size) 0) 127) = 4 then meta_Parse.j2 k s l ((s.extract p s.size).extract (wrap64 (4 + t)).toNat (s.extract p s.size).size) (decide (bt (s.extract p s.size) 0 > 127)) (wrap64 (c + 1)) (wrap64 (Go.bits .and .u8 (bt (s.extract p s.size) 0) 127)) ((s.extract p s.size).extract 4 (wrap64 (4 + t)).toNat)
               else meta_Parse.j2 k s l ((s.extract p s.size).extract (wrap64 (4 + t)).toNat (s.extract p s.size).size) (decide (bt (s.extract p s.size) 0 > 127)) c (wrap64 (Go.bits .and .u8 (bt (s.extract p s.size) 0) 127)) ((s.extract p s.size).extract 4 (wrap64 (4 + t)).toNat)) else none) else none) else none) else none) (fun k => ?_) (Ev.bind hev ?_)
          · simp only [meta_Parse.j1]
            rw [if_neg (by decide), if_pos (by decide), if_pos (by rw [hz]; omega), e14]
          · refine Ev.congr (fun k => ?_) hj2
            rw [if_pos (by rw [hz]; omega), h4n, if_pos (by omega), if_pos (by rw [hz]; omega), if_pos (by omega), hb0, ht, Int.toNat_natCast, hrs, hbd]
            unfold com
            by_cases h44 : typ s p = 4
            · rw [if_pos h44, if_pos h44, w64 (c + 1) (by omega) (by omega)]
            · rw [if_neg h44, if_neg h44]
def parseF (s : ByteArray) : List S36 × Int × Int := prs s (s.size + 1) [] 0 0
theorem parse_ev (s : ByteArray) (hs : s.size ≤ 140737488355328) : Ev (fun k => meta_Parse.f k s) (parseF s) := by
  have := parse_l0 s hs (s.size + 1) 0 [] 0 (by omega) (by omega) (by omega) (by omega) (by simp)
  rw [show s.extract 0 s.size = s from ByteArray.extract_zero_size] at this
  exact this
end Go.Proofs.Ytgihacaegmpggaa.Plain

/- The plain law of layer 13: two lists of blocks; MetaParses. -/
namespace Go.Proofs.Ytgihacaegmpggaa.Plain
open Go.RowKit Go.Proofs.Ytgihacaegmpggaa Go.Proofs.Ytgihacaegmpggaa.R Go.Proofs.Ytgihacaegmpggaa.Be Go.Proofs.YtgihacaegmpggaaW.PrintWords Go.Proofs.YtgihacaegmpggaaW.PrintLast Go.Proofs.YtgihacaegmpggaaW.PrintMore
set_option linter.unusedVariables false
set_option linter.unusedSimpArgs false

def neB (a b : S36) : Bool := !(a.f0 == b.f0) || !(a.f1.toList == b.f1.toList)
theorem neB_iff (a b : S36) : neB a b = true ↔ a ≠ b := by
  unfold neB
  obtain ⟨a0, a1⟩ := a
  obtain ⟨b0, b1⟩ := b
  constructor
  · intro h e
    injection e with e0 e1
    subst e0 e1
    simp at h
  · intro h
    by_cases e0 : a0 = b0
    · by_cases e1 : a1.toList = b1.toList
      · exact absurd (by rw [e0, toList_inj e1]) h
      · simp [e1]
    · simp [e0]
def sl (l m : List S36) : Nat → Nat → Bool
  | 0, _ => true
  | d + 1, i => if neB (rd_T36 l i) (rd_T36 m i) = true then false else sl l m d (i + 1)
def sameB (l m : List S36) : Bool := if l.length = m.length then sl l m l.length 0 else false
theorem same_l0 (l m : List S36) (he : l.length = m.length) (hl : l.length ≤ 140737488355328) : ∀ (d i : Nat), i + d = l.length → Ev (fun k => lacquerref13_Same.l0 k l m (i : Nat)) (sl l m d i)
  | 0, i, hi => by
    refine Ev.step (f := fun _ => some true) (fun k => ?_) (Ev.now _)
    simp only [lacquerref13_Same.l0]
    rw [if_neg (by omega)]
  | d + 1, i, hi => by
    unfold sl
    by_cases h : neB (rd_T36 l i) (rd_T36 m i) = true
    · rw [if_pos h]
      refine Ev.step (f := fun _ => some false) (fun k => ?_) (Ev.now _)
      simp only [lacquerref13_Same.l0]
      unfold neB at h
      rw [if_pos (by omega), if_pos (by omega), if_pos (by omega), if_pos h]
    · rw [if_neg h]
      refine Ev.step (fun k => ?_) (same_l0 l m he hl d (i + 1) (by omega))
      simp only [lacquerref13_Same.l0]
      unfold neB at h
      rw [if_pos (by omega), if_pos (by omega), if_pos (by omega), if_neg h, w64 ((i : Int) + 1) (by omega) (by omega)]
      rfl
theorem same_ev (l m : List S36) (hl : l.length ≤ 140737488355328) : Ev (fun k => lacquerref13_Same.f k l m) (sameB l m) := by
  unfold sameB
  by_cases he : l.length = m.length
  · rw [if_pos he]
    refine Ev.congr (fun k => ?_) (same_l0 l m he hl l.length 0 (by omega))
    unfold lacquerref13_Same.f
    rw [if_pos (by omega)]
    rfl
  · rw [if_neg he]
    refine Ev.congr (f := fun _ => some false) (fun k => ?_) (Ev.now _)
    unfold lacquerref13_Same.f
    rw [if_neg (by omega)]
theorem block_l0 (l m : List S36) (he : l.length = m.length) (hl : l.length ≤ 140737488355328) : ∀ (d i : Nat), i + d = l.length → Ev (fun k => api_Block.l0 k l m (l.length : Nat) (i : Nat)) (sl l m d i)
  | 0, i, hi => by
    refine Ev.step (f := fun _ => some true) (fun k => ?_) (Ev.now _)
    simp only [api_Block.l0]
    rw [if_neg (by omega)]
  | d + 1, i, hi => by
    unfold sl
    by_cases h : neB (rd_T36 l i) (rd_T36 m i) = true
    · rw [if_pos h]
      refine Ev.step (f := fun _ => some false) (fun k => ?_) (Ev.now _)
      simp only [api_Block.l0]
      unfold neB at h
      rw [if_pos (by omega), if_pos (by omega), if_pos (by omega), if_pos (by omega), if_pos h]
    · rw [if_neg h]
      refine Ev.step (fun k => ?_) (block_l0 l m he hl d (i + 1) (by omega))
      simp only [api_Block.l0]
      unfold neB at h
      rw [if_pos (by omega), if_pos (by omega), if_pos (by omega), if_pos (by omega), if_neg h, w64 ((i : Int) + 1) (by omega) (by omega)]
      rfl
theorem block_ev (l m : List S36) (hl : l.length ≤ 140737488355328) : Ev (fun k => api_Block.f k l m) (sameB l m) := by
  unfold sameB
  by_cases he : l.length = m.length
  · rw [if_pos he]
    refine Ev.congr (fun k => ?_) (block_l0 l m he hl l.length 0 (by omega))
    unfold api_Block.f
    rw [if_pos (by omega)]
    rfl
  · rw [if_neg he]
    refine Ev.congr (f := fun _ => some false) (fun k => ?_) (Ev.now _)
    unfold api_Block.f
    rw [if_neg (by omega)]
theorem sl_refl (l : List S36) : ∀ d i, sl l l d i = true
  | 0, _ => rfl
  | d + 1, i => by
    unfold sl
    rw [if_neg (fun h => (neB_iff _ _).1 h rfl)]
    exact sl_refl l d (i + 1)
theorem sameB_refl (l : List S36) : sameB l l = true := by
  unfold sameB
  rw [if_pos rfl]
  exact sl_refl l _ _
theorem sl_eq (l m : List S36) : ∀ d i, sl l m d i = true → ∀ j, i ≤ j → j < i + d → rd_T36 l j = rd_T36 m j
  | 0, _, _, j, h1, h2 => by omega
  | d + 1, i, h, j, h1, h2 => by
    unfold sl at h
    by_cases hn : neB (rd_T36 l i) (rd_T36 m i) = true
    · rw [if_pos hn] at h
      cases h
    · rw [if_neg hn] at h
      by_cases e : j = i
      · subst e
        exact Classical.byContradiction fun hc => hn ((neB_iff _ _).2 hc)
      · exact sl_eq l m d (i + 1) h j (by omega) (by omega)
theorem sameB_eq {l m : List S36} (h : sameB l m = true) : l = m := by
  unfold sameB at h
  by_cases he : l.length = m.length
  · rw [if_pos he] at h
    refine List.ext_getElem he fun j h1 h2 => ?_
    have := sl_eq l m _ _ h j (by omega) (by omega)
    simpa [rd_T36, h1, h2] using this
  · rw [if_neg he] at h
    cases h
theorem nxt_len (l : List S36) (c t : Int) (b : ByteArray) (r : List S36 × Int × Int) (h : l.length ≠ 1024 → r.1.length ≤ 1024) : (nxt l c t b r).1.length ≤ 1024 := by
  unfold nxt
  split
  · simp
  · split
    · simp
    · rename_i h2
      split
      · exact h h2
      · simp
theorem prs_len (s : ByteArray) : ∀ d l p c, l.length ≤ 1024 → (prs s d l p c).1.length ≤ 1024
  | 0, l, p, c, hl => by simp [prs]
  | d + 1, l, p, c, hl => by
    unfold prs
    split
    · simp
    · split
      · simp
      · refine nxt_len _ _ _ _ _ (fun h => ?_)
        split
        · simp
          omega
        · exact prs_len s d _ _ _ (by simp; omega)
end Go.Proofs.Ytgihacaegmpggaa.Plain

/- The plain law of layer 13: blocks as a text. -/
namespace Go.Proofs.Ytgihacaegmpggaa.Plain
open Go.RowKit Go.Proofs.Ytgihacaegmpggaa Go.Proofs.Ytgihacaegmpggaa.R Go.Proofs.Ytgihacaegmpggaa.Be Go.Proofs.YtgihacaegmpggaaW.PrintWords Go.Proofs.YtgihacaegmpggaaW.PrintLast Go.Proofs.YtgihacaegmpggaaW.PrintMore
set_option linter.unusedVariables false
set_option linter.unusedSimpArgs false

theorem check_zero {t : Int} {b : ByteArray} (h : checkF t b = 0) : 0 ≤ t ∧ t ≤ 126 ∧ b.size < 16777216 := by
  unfold checkF at h
  by_cases h0 : t < 0
  · rw [if_pos h0] at h
    cases h
  rw [if_neg h0] at h
  by_cases h1 : 126 < t
  · rw [if_pos h1] at h
    cases h
  rw [if_neg h1] at h
  by_cases h2 : 16777216 ≤ b.size
  · rw [if_pos h2] at h
    cases h
  omega
theorem or_fin : ∀ c : Fin 127, Go.bits .or .u8 (c.val : Int) 128 = (c.val : Int) + 128 := by decide +kernel
theorem or_128 (t : Int) (h : 0 ≤ t ∧ t ≤ 126) : Go.bits .or .u8 (t % 256) 128 = t + 128 := by
  obtain ⟨c, hc⟩ : ∃ c : Fin 127, t = (c.val : Int) := ⟨⟨t.toNat, by omega⟩, by simp; omega⟩
  rw [show t % 256 = t by omega, hc, or_fin c]
def hd (b : S36) (last : Bool) : Int := if last = true then b.f0 + 128 else b.f0
def prt (b : S36) (last : Bool) : List Int := hd b last :: ((leL 3 (b.f1.size : Int)).reverse ++ bytesOf b.f1)
def bld (l : List S36) : Nat → Nat → List Int → Option (List Int)
  | 0, _, out => some out
  | d + 1, i, out => if checkF (rd_T36 l i).f0 (rd_T36 l i).f1 = 0 then bld l d (i + 1) (out ++ prt (rd_T36 l i) (decide (i + 1 = l.length))) else none
def tot (l : List S36) : Nat → Nat → Nat
  | 0, _ => 0
  | d + 1, i => 4 + (rd_T36 l i).f1.size + tot l d (i + 1)
def fin_ (l : List S36) : Option (List Int) → ByteArray × Int
  | none => (⟨#[]⟩, 60)
  | some out => if (parseF (strOfNums out)).2.2 = 0 then (if sameB l (parseF (strOfNums out)).1 = true then (strOfNums out, 0) else (⟨#[]⟩, 60)) else (⟨#[]⟩, 60)
def buildF (l : List S36) : ByteArray × Int := fin_ l (bld l l.length 0 [])
theorem be3 (n : Nat) (h : n < 16777216) : beR (n : Int) 3 = (strOfNums (leL 3 (n : Int)).reverse, 0) := by
  unfold beR
  rw [if_pos ⟨by decide, by decide, by omega, by simp; omega⟩]
  rfl
theorem be3_bytes (n : Nat) : bytesOf (strOfNums (leL 3 (n : Int)).reverse) = (leL 3 (n : Int)).reverse :=
  bytesOf_strOfNums _ (fun x hx => leL_bytes 3 _ x (List.mem_reverse.1 hx))
theorem prt_length (b : S36) (last : Bool) : (prt b last).length = 4 + b.f1.size := by
  unfold prt
  rw [List.length_cons, List.length_append, List.length_reverse, leL_length, bytesOf_length]
  omega
theorem size_nums3 (l : List Int) : (strOfNums l).size = l.length := strOfNums_size l
theorem build_end (l : List S36) (hl : l.length ≤ 140737488355328) (out : List Int) (ho : out.length < 140737488355328) : Ev (fun k => meta_Build.l0 k l out l (l.length : Nat) (l.length : Nat)) (fin_ l (some out)) := by
  refine Ev.step (f := fun k => (meta_Parse.f k (strOfNums out)).bind fun m => if m.2.2 = 0 then ((api_Block.f k l m.1).bind fun q => if q = true then some (strOfNums out, 0) else some (⟨#[]⟩, 60)) else some (⟨#[]⟩, 60)) (fun k => ?_) ?_
  · simp only [meta_Build.l0]
    rw [if_neg (by omega)]
  · refine Ev.bind (parse_ev (strOfNums out) (by rw [size_nums3]; omega)) ?_
    rw [show fin_ l (some out) = (if (parseF (strOfNums out)).2.2 = 0 then (if sameB l (parseF (strOfNums out)).1 = true then (strOfNums out, 0) else (⟨#[]⟩, 60)) else (⟨#[]⟩, 60)) from rfl]
    by_cases h0 : (parseF (strOfNums out)).2.2 = 0
    · rw [show (if (parseF (strOfNums out)).2.2 = 0 then (if sameB l (parseF (strOfNums out)).1 = true then (strOfNums out, (0 : Int)) else (⟨#[]⟩, 60)) else (⟨#[]⟩, 60)) = (if sameB l (parseF (strOfNums out)).1 = true then (strOfNums out, 0) else (⟨#[]⟩, 60)) from if_pos h0]
      refine Ev.congr (fun k => if_pos h0) ?_
      refine Ev.bind (block_ev l _ hl) ?_
      cases sameB l (parseF (strOfNums out)).1
      · exact Ev.now _
      · exact Ev.now _
    · rw [show (if (parseF (strOfNums out)).2.2 = 0 then (if sameB l (parseF (strOfNums out)).1 = true then (strOfNums out, (0 : Int)) else (⟨#[]⟩, 60)) else (⟨#[]⟩, 60)) = (⟨#[]⟩, 60) from if_neg h0]
      exact Ev.congr (f := fun _ => some (⟨#[]⟩, 60)) (fun k => if_neg h0) (Ev.now _)
theorem build_l0 (l : List S36) (hl : l.length ≤ 140737488355328) : ∀ (d i : Nat) (out : List Int), i + d = l.length → out.length + tot l d i < 140737488355328 →
    Ev (fun k => meta_Build.l0 k l out l (l.length : Nat) (i : Nat)) (fin_ l (bld l d i out))
  | 0, i, out, hi, ht => by
    obtain rfl : i = l.length := by omega
    exact build_end l hl out (by unfold tot at ht; omega)
  | d + 1, i, out, hi, ht => by
    unfold tot at ht
    unfold bld
    have ih := build_l0 l hl d (i + 1) (out ++ prt (rd_T36 l i) (decide (i + 1 = l.length))) (by omega) (by rw [List.length_append, prt_length]; omega)
    generalize hb : rd_T36 l i = b at ht ih
    have hlast : wrap64 ((l.length : Int) - 1) = (l.length : Int) - 1 := w64 _ (by omega) (by omega)
    have hnext : wrap64 ((i : Int) + 1) = ((i + 1 : Nat) : Int) := by rw [w64 _ (by omega) (by omega)]; rfl
    have key : ∀ k, meta_Build.l0 (k + 1) l out l (l.length : Nat) (i : Nat) = (meta_Check.f k b.f0 b.f1).bind fun z => if z = 0 then (if (i : Int) = (l.length : Int) - 1 then
        ((bytes_Be.f k (b.f1.size : Int) 3).bind fun e => if out.length < 140737488355328 then ((some (out ++ [Go.bits .or .u8 (b.f0 % 256) 128])).bind fun y => if y.length + e.1.size < 140737488355328 then ((some (y ++ bytesOf e.1)).bind fun z => if z.length + b.f1.size < 140737488355328 then meta_Build.l0 k l (z ++ bytesOf b.f1) l (l.length : Nat) ((i + 1 : Nat) : Int) else none) else none) else none)
        else ((bytes_Be.f k (b.f1.size : Int) 3).bind fun e => if out.length < 140737488355328 then ((some (out ++ [b.f0 % 256])).bind fun y => if y.length + e.1.size < 140737488355328 then ((some (y ++ bytesOf e.1)).bind fun z => if z.length + b.f1.size < 140737488355328 then meta_Build.l0 k l (z ++ bytesOf b.f1) l (l.length : Nat) ((i + 1 : Nat) : Int) else none) else none) else none)) else some (⟨#[]⟩, 60) := fun k => by
      simp only [meta_Build.l0]
      rw [if_pos (by omega), if_pos (by omega), if_pos (by omega), hb, hlast, hnext]
    refine Ev.step key (Ev.bind (check_ev _ _) ?_)
    by_cases h0 : checkF b.f0 b.f1 = 0
    · rw [show (if checkF b.f0 b.f1 = 0 then bld l d (i + 1) (out ++ prt b (decide (i + 1 = l.length))) else none) = bld l d (i + 1) (out ++ prt b (decide (i + 1 = l.length))) from if_pos h0]
      obtain ⟨ht0, ht1, hz⟩ := check_zero h0
      have hbe := Be.Be_ev (b.f1.size : Int) 3 (by omega)
      rw [be3 _ hz] at hbe
      have hlen3 : (strOfNums (leL 3 (b.f1.size : Int)).reverse).size = 3 := by rw [size_nums3, List.length_reverse, leL_length]
      refine Ev.congr (fun k => if_pos h0) ?_
      by_cases hi1 : i + 1 = l.length
      · have hx : (i : Int) = (l.length : Int) - 1 := by omega
        refine Ev.congr (fun k => if_pos hx) (Ev.bind hbe ?_)
        refine Ev.congr (fun k => ?_) ih
        rw [if_pos (by omega), Option.bind_some, if_pos (by rw [hlen3, List.length_append, List.length_singleton]; omega), Option.bind_some, if_pos (by rw [be3_bytes, List.length_append, List.length_append, List.length_singleton, List.length_reverse, leL_length]; omega), be3_bytes, or_128 _ ⟨ht0, ht1⟩]
        congr 1
        unfold prt hd
        rw [decide_eq_true hi1]
        simp
      · have hx : ¬ (i : Int) = (l.length : Int) - 1 := by omega
        refine Ev.congr (fun k => if_neg hx) (Ev.bind hbe ?_)
        refine Ev.congr (fun k => ?_) ih
        rw [if_pos (by omega), Option.bind_some, if_pos (by rw [hlen3, List.length_append, List.length_singleton]; omega), Option.bind_some, if_pos (by rw [be3_bytes, List.length_append, List.length_append, List.length_singleton, List.length_reverse, leL_length]; omega), be3_bytes, show b.f0 % 256 = b.f0 by omega]
        congr 1
        unfold prt hd
        rw [decide_eq_false hi1]
        simp
    · rw [show (if checkF b.f0 b.f1 = 0 then bld l d (i + 1) (out ++ prt b (decide (i + 1 = l.length))) else none) = none from if_neg h0]
      exact Ev.congr (f := fun _ => some (⟨#[]⟩, 60)) (fun k => if_neg h0) (Ev.now _)
theorem build_ev (l : List S36) (hl : l.length ≤ 140737488355328) (ht : tot l l.length 0 < 140737488355328) : Ev (fun k => meta_Build.f k l) (buildF l) :=
  build_l0 l hl l.length 0 [] (by omega) (by simpa using ht)
end Go.Proofs.Ytgihacaegmpggaa.Plain

/- Printed by a program of ours (pp.sh), partly over contracts proved by hand. -/
namespace Go.Proofs.Ytgihacaegmpggaa.R
open Go.RowKit Go.Proofs.YtgihacaegmpggaaW.PrintWords Go.Proofs.YtgihacaegmpggaaW.PrintLast Go.Proofs.YtgihacaegmpggaaW.PrintMore
attribute [local go_sem] max2_int min2_int max_two min_two max_three min_three max_four min_four   -- for this text's walks alone
set_option linter.unusedVariables false
set_option linter.unusedSimpArgs false

/-! ### lacquerref13_Lay: function 38 -/

end Go.Proofs.Ytgihacaegmpggaa.R

/- Printed by a program of ours (pp.sh), partly over contracts proved by hand. -/
namespace Go.Proofs.Ytgihacaegmpggaa.R
open Go.RowKit Go.Proofs.YtgihacaegmpggaaW.PrintWords Go.Proofs.YtgihacaegmpggaaW.PrintLast Go.Proofs.YtgihacaegmpggaaW.PrintMore
attribute [local go_sem] max2_int min2_int max_two min_two max_three min_three max_four min_four   -- for this text's walks alone
set_option linter.unusedVariables false
set_option linter.unusedSimpArgs false

/-! ### lacquerref13_Build: function 19 -/

-- NOT PRINTED: function 6 (lacquerlaw13_MetaBuilds)

/-! ### lacquerlaw13_MetaBack: function 7 -/
def lacquerlaw13_MetaBack.j0 : Nat → ByteArray → Option (Bool)
  | 0, _ => none
  | k + 1, x1 => (meta_Parse.f k x1).bind fun bt355 => (if bt355.2.2 = 0 then ((meta_Build.f k bt355.1).bind fun bt360 => (if bt360.2 = 0 then (if bt355.2.1 ≤ (x1.size : Int) then (if 0 ≤ bt355.2.1 then (if bt360.1.toList = (x1.extract 0 (bt355.2.1 : Int).toNat).toList then ((lacquerlaw13_awake.f k).bind fun t362 => (some t362)) else (none)) else (none)) else (none)) else (none))) else (if bt355.2.1 = 0 then (if (bt355.1.length : Int) = 0 then ((lacquerlaw13_awake.f k).bind fun t363 => (some t363)) else (none)) else (none)))
def lacquerlaw13_MetaBack.f (k : Nat) (l0 : List (S36)) (a1 : ByteArray) : Option (Bool) := (meta_Build.f k l0).bind fun bt347 => (if bt347.2 = 0 then (if bt347.1.size + 1 ≤ 9223372036854775807 then ((meta_Parse.f k (bt347.1 ++ (⟨#[255]⟩ : ByteArray))).bind fun bt349 => (if bt349.2.2 = 0 then (if bt349.2.1 = (bt347.1.size : Int) then ((lacquerref13_Same.f k l0 bt349.1).bind fun t354 => (if t354 = true then (lacquerlaw13_MetaBack.j0 k a1) else (none))) else (none)) else (none))) else (none)) else (lacquerlaw13_MetaBack.j0 k a1))
set_option maxHeartbeats 8000000 in
set_option maxRecDepth 100000 in
theorem lacquerlaw13_MetaBack.calls (k : Nat) (A0 : Option Addr) (c0 : Nat) (l0 : List (S36)) (a1 : ByteArray) (r : Bool) (w : World) (hr0 : Kd.C k36 w A0 l0.length l0) (hc0 : l0.length ≤ c0) (h : lacquerlaw13_MetaBack.f k l0 a1 = some r) :
    Calls Try.prog 7 #[.slice A0 l0.length c0, .string a1] w fun e w' => e = .returned (.bool r) ∧ Below w.heap.size w w' := by
  have HR0 := Aside0.mk hr0
  have HC0 := Aside0.mk hc0
  clear hr0 hc0
  have HB := Aside0.mk (Below.refl w.heap.size w)
  have H : ((meta_Build.f k l0).bind fun bt347 => (if bt347.2 = 0 then (if bt347.1.size + 1 ≤ 9223372036854775807 then ((meta_Parse.f k (bt347.1 ++ (⟨#[255]⟩ : ByteArray))).bind fun bt349 => (if bt349.2.2 = 0 then (if bt349.2.1 = (bt347.1.size : Int) then ((lacquerref13_Same.f k l0 bt349.1).bind fun t354 => (if t354 = true then (lacquerlaw13_MetaBack.j0 k a1) else (none))) else (none)) else (none))) else (none)) else (lacquerlaw13_MetaBack.j0 k a1))) = some r := h
  clear h
  replace H := Option.bind_eq_some_iff.mp H
  obtain ⟨⟨t347, t348⟩, A30, H⟩ := H
  replace H : (if t348 = 0 then (if t347.size + 1 ≤ 9223372036854775807 then ((meta_Parse.f k (t347 ++ (⟨#[255]⟩ : ByteArray))).bind fun bt349 => (if bt349.2.2 = 0 then (if bt349.2.1 = (t347.size : Int) then ((lacquerref13_Same.f k l0 bt349.1).bind fun t354 => (if t354 = true then (lacquerlaw13_MetaBack.j0 k a1) else (none))) else (none)) else (none))) else (none)) else (lacquerlaw13_MetaBack.j0 k a1)) = some r := H
  have A3 := Aside0.mk A30
  clear A30
  have HC4 := Aside0.mk H
  clear H
  go_enter Try.func7, Try.ntmps7
  go_upto_if 21 with (first | ((with_reducible refine gate_callee (f := 18) rfl ?_); refine goesL_ (some 17) rfl rfl Try.func18 (by kernel_rfl) rfl #[.slice A0 l0.length c0] rfl (by (try simp only [List.map_toArray, List.map_cons, List.map_nil]); first | done | rfl | (simp only [List.length_drop, List.length_take]; rfl)) ?_; (with_reducible refine (meta_Build.calls k _ _ l0 t347 t348 _ ?side1 ?side2 A3.out).mono ?_); (case side1 => repeat (first | exact HR0.out | (with_reducible refine Kd.C_alloc ?_ _) | (with_reducible refine Kd.C_drewN ?_ _) | (with_reducible refine Kd.C_drew ?_))); (case side2 => exact HC0.out); rintro e w5 ⟨rfl, hb⟩; refine ⟨_, rfl, ?_⟩; have n0_ := Aside0.mk (below_step (by repeat (first | (with_reducible first | exact HB.out | apply below_alloc | apply pw_below_drewN | apply below_drew1) | exact HB.out)) hb); clear HB; have HB := n0_; clear n0_; (try clear hb); (try clear hb2); (try clear hk); (try clear hi)))
  (try simp only [Act.put, List.setIfInBounds_toArray, List.set_cons_zero, List.set_cons_succ])
  go_cut [] (fun wc => ∃ (kq : Nat), Aside0 (lacquerlaw13_MetaBack.j0 kq a1 = some r) ∧ Aside0 (kq ≤ k) ∧ Aside0 (Below w.heap.size w wc))
  case first =>
    have H := HC4.out
    clear HC4
    by_cases c6 : t348 = 0
    · rw [if_pos c6] at H
      have c6b0 : (t348 == 0) = true := beq_iff_eq.mpr c6
      have c6b1 : (t348 != 0) = false := bne_eq_false_iff_eq.mpr c6
      clear c6
      (first | rw [c6b0] | (simp only [i64_w, i32_w]; rw [c6b0]) | skip)
      by_cases c7 : t347.size + 1 ≤ 9223372036854775807
      · rw [if_pos c7] at H
        have c7b0 := eq_true c7
        have c7b1 : decide (t347.size + 1 ≤ 9223372036854775807) = true := decide_eq_true c7
        try have c7b2 : (9223372036854775807 < t347.size + 1) = False := eq_false (Nat.not_lt.2 c7)
        replace H := Option.bind_eq_some_iff.mp H
        obtain ⟨⟨t349, t350, t351⟩, A80, H⟩ := H
        replace H : (if t351 = 0 then (if t350 = (t347.size : Int) then ((lacquerref13_Same.f k l0 t349).bind fun t354 => (if t354 = true then (lacquerlaw13_MetaBack.j0 k a1) else (none))) else (none)) else (none)) = some r := H
        have A8 := Aside0.mk A80
        clear A80
        by_cases c9 : t351 = 0
        · rw [if_pos c9] at H
          have c9b0 : (t351 == 0) = true := beq_iff_eq.mpr c9
          have c9b1 : (t351 != 0) = false := bne_eq_false_iff_eq.mpr c9
          clear c9
          by_cases c10 : t350 = (t347.size : Int)
          · rw [if_pos c10] at H
            have c10b0 : (t350 == (t347.size : Int)) = true := beq_iff_eq.mpr c10
            have c10b1 : (t350 != (t347.size : Int)) = false := bne_eq_false_iff_eq.mpr c10
            clear c10
            replace H := Option.bind_eq_some_iff.mp H
            obtain ⟨t354, A110, H⟩ := H
            replace H : (if t354 = true then (lacquerlaw13_MetaBack.j0 k a1) else (none)) = some r := H
            have A11 := Aside0.mk A110
            clear A110
            by_cases c12 : t354 = true
            · subst c12
              have H1 : (lacquerlaw13_MetaBack.j0 k a1) = some r := by rw [if_pos rfl] at H; exact H
              clear H
              have H := H1
              clear H1
              have H' := Aside0.mk H
              clear H
              go_wp2_with (first | ((with_reducible refine gate_callee (f := 15) rfl ?_); refine goesL_ (some 25) rfl rfl Try.func15 (by kernel_rfl) rfl #[.string (t347 ++ (⟨#[255]⟩ : ByteArray))] rfl (by (try simp only [List.map_toArray, List.map_cons, List.map_nil]); first | done | rfl | (simp only [List.length_drop, List.length_take]; rfl)) ?_; (with_reducible refine (meta_Parse.calls k (t347 ++ (⟨#[255]⟩ : ByteArray)) t349 t350 t351 _ A8.out).mono ?_); rintro e w13 ⟨v352, rfl, ho0, hb⟩; refine ⟨_, rfl, ?_⟩; have n0_ := Aside0.mk (Kd.R_lower ho0 (below_size (by repeat (first | (with_reducible first | exact HB.out | apply below_alloc | apply pw_below_drewN | apply below_drew1) | exact HB.out)))); have n1_ := Aside0.mk (below_step (by repeat (first | (with_reducible first | exact HB.out | apply below_alloc | apply pw_below_drewN | apply below_drew1) | exact HB.out)) hb); clear HB; have HO353 := n0_; have HB := n1_; clear n0_ n1_; (try clear hb); (try clear hb2); (try clear hk); (try clear hi); (try clear ho0); obtain ⟨Ao14, co14, eo14⟩ := Kd.R_slice HO353.out; subst eo14) | (go_at_call 17; (with_reducible refine (lacquerref13_Same.calls k _ _ l0 _ _ t349 true _ ?side1 ?side2 ?side3 ?side4 A11.out).mono ?_); (case side1 => repeat (first | exact (Kd.C_below HR0.out HB.out) | (with_reducible refine Kd.C_alloc ?_ _) | (with_reducible refine Kd.C_drewN ?_ _) | (with_reducible refine Kd.C_drew ?_))); (case side2 => exact HC0.out); (case side3 => repeat (first | exact (Kd.R_reads' HO353.out).2.2 | (with_reducible refine Kd.C_alloc ?_ _) | (with_reducible refine Kd.C_drewN ?_ _) | (with_reducible refine Kd.C_drew ?_))); (case side4 => exact (Kd.R_reads' HO353.out).2.1); rintro e w' ⟨rfl, ⟨nd, rfl⟩⟩))
              go_meet
              case rel => exact ⟨_, H', ⟨by first | omega | exact Nat.le_refl _⟩, ⟨by repeat (first | (with_reducible first | exact HB.out | apply below_alloc | apply pw_below_drewN | apply below_drew1) | exact HB.out)⟩⟩
            · replace c12 := Bool.eq_false_iff.mpr c12
              subst c12
              have H1 : (none) = some r := by rw [if_neg (show ¬ (false = true) by decide)] at H; exact H
              clear H
              have H := H1
              clear H1
              exact absurd H (by simp)
          · rw [if_neg c10] at H
            exact absurd H (by simp)
        · rw [if_neg c9] at H
          exact absurd H (by simp)
      · rw [if_neg c7] at H
        exact absurd H (by simp)
    · rw [if_neg c6] at H
      have c6b0 : (t348 == 0) = false := beq_eq_false_iff_ne.mpr c6
      have c6b1 : (t348 != 0) = true := bne_iff_ne.mpr c6
      (first | rw [c6b0] | (simp only [i64_w, i32_w]; rw [c6b0]) | skip)
      have H' := Aside0.mk H
      clear H
      go_wp2
      go_meet
      case rel => exact ⟨_, H', ⟨by first | omega | exact Nat.le_refl _⟩, ⟨by repeat (first | (with_reducible first | exact HB.out | apply below_alloc | apply pw_below_drewN | apply below_drew1) | exact HB.out)⟩⟩
  case rest =>
    clear HC4
    try clear c1
    try clear p2
    try clear c6
    try clear c6b0
    try clear c6b1
    try clear c7
    try clear c7b0
    try clear c7b1
    try clear c7b2
    try clear c9
    try clear c9b0
    try clear c9b1
    try clear c10
    try clear c10b0
    try clear c10b1
    try clear c12
    obtain ⟨kq, HA, HJ3, HB⟩ := hcut
    cases kq with
    | zero => exact absurd HA.out (by simp [lacquerlaw13_MetaBack.j0])
    | succ kj3 =>
      have H := HA.out
      clear HA
      simp only [lacquerlaw13_MetaBack.j0] at H
      replace H := Option.bind_eq_some_iff.mp H
      obtain ⟨⟨t355, t356, t357⟩, A150, H⟩ := H
      replace H : (if t357 = 0 then ((meta_Build.f kj3 t355).bind fun bt360 => (if bt360.2 = 0 then (if t356 ≤ (a1.size : Int) then (if 0 ≤ t356 then (if bt360.1.toList = (a1.extract 0 (t356 : Int).toNat).toList then ((lacquerlaw13_awake.f kj3).bind fun t362 => (some t362)) else (none)) else (none)) else (none)) else (none))) else (if t356 = 0 then (if (t355.length : Int) = 0 then ((lacquerlaw13_awake.f kj3).bind fun t363 => (some t363)) else (none)) else (none))) = some r := H
      have A15 := Aside0.mk A150
      clear A150
      by_cases c16 : t357 = 0
      · rw [if_pos c16] at H
        have c16b0 : (t357 == 0) = true := beq_iff_eq.mpr c16
        have c16b1 : (t357 != 0) = false := bne_eq_false_iff_eq.mpr c16
        clear c16
        replace H := Option.bind_eq_some_iff.mp H
        obtain ⟨⟨t360, t361⟩, A170, H⟩ := H
        replace H : (if t361 = 0 then (if t356 ≤ (a1.size : Int) then (if 0 ≤ t356 then (if t360.toList = (a1.extract 0 (t356 : Int).toNat).toList then ((lacquerlaw13_awake.f kj3).bind fun t362 => (some t362)) else (none)) else (none)) else (none)) else (none)) = some r := H
        have A17 := Aside0.mk A170
        clear A170
        by_cases c18 : t361 = 0
        · rw [if_pos c18] at H
          have c18b0 : (t361 == 0) = true := beq_iff_eq.mpr c18
          have c18b1 : (t361 != 0) = false := bne_eq_false_iff_eq.mpr c18
          clear c18
          by_cases c19 : t356 ≤ (a1.size : Int)
          · rw [if_pos c19] at H
            have c19b0 : decide (t356 ≤ (a1.size : Int)) = true := decide_eq_true c19
            clear c19
            by_cases c20 : 0 ≤ t356
            · rw [if_pos c20] at H
              have c20b0 := eq_true c20
              have c20b1 : decide (0 ≤ t356) = true := decide_eq_true c20
              clear c20
              have c21b0 := eq_true (of_decide_eq_true (by first | (with_reducible assumption) | assumption) : t356 ≤ (a1.size : Int))
              by_cases c22 : t360.toList = (a1.extract 0 (t356 : Int).toNat).toList
              · rw [if_pos c22] at H
                have c22b0 : (t360.toList == (a1.extract 0 (t356 : Int).toNat).toList) = true := beq_iff_eq.mpr c22
                have c22b1 : (t360.toList != (a1.extract 0 (t356 : Int).toNat).toList) = false := bne_eq_false_iff_eq.mpr c22
                clear c22
                replace H := Option.bind_eq_some_iff.mp H
                obtain ⟨t362, A230, H⟩ := H
                replace H : (some t362) = some r := H
                have A23 := Aside0.mk A230
                clear A230
                obtain rfl := Option.some.inj H
                go_wp2_with (first | ((with_reducible refine gate_callee (f := 15) rfl ?_); refine goesL_ (some 45) rfl rfl Try.func15 (by kernel_rfl) rfl #[.string a1] rfl (by (try simp only [List.map_toArray, List.map_cons, List.map_nil]); first | done | rfl | (simp only [List.length_drop, List.length_take]; rfl)) ?_; (with_reducible refine (meta_Parse.calls kj3 a1 t355 t356 t357 _ A15.out).mono ?_); rintro e w24 ⟨v358, rfl, ho0, hb⟩; refine ⟨_, rfl, ?_⟩; have n0_ := Aside0.mk (Kd.R_lower ho0 (below_size (by repeat (first | (with_reducible first | exact HB.out | apply below_alloc | apply pw_below_drewN | apply below_drew1) | exact HB.out)))); have n1_ := Aside0.mk (below_step (by repeat (first | (with_reducible first | exact HB.out | apply below_alloc | apply pw_below_drewN | apply below_drew1) | exact HB.out)) hb); clear HB; have HO359 := n0_; have HB := n1_; clear n0_ n1_; (try clear hb); (try clear hb2); (try clear hk); (try clear hi); (try clear ho0); obtain ⟨Ao25, co25, eo25⟩ := Kd.R_slice HO359.out; subst eo25) | ((with_reducible refine gate_callee (f := 18) rfl ?_); refine goesL_ (some 63) rfl rfl Try.func18 (by kernel_rfl) rfl #[.slice Ao25 t355.length co25] rfl (by (try simp only [List.map_toArray, List.map_cons, List.map_nil]); first | done | rfl | (simp only [List.length_drop, List.length_take]; rfl)) ?_; (with_reducible refine (meta_Build.calls kj3 _ _ t355 t360 t361 _ ?side1 ?side2 A17.out).mono ?_); (case side1 => repeat (first | exact (Kd.R_reads' HO359.out).2.2 | (with_reducible refine Kd.C_alloc ?_ _) | (with_reducible refine Kd.C_drewN ?_ _) | (with_reducible refine Kd.C_drew ?_))); (case side2 => exact (Kd.R_reads' HO359.out).2.1); rintro e w26 ⟨rfl, hb⟩; refine ⟨_, rfl, ?_⟩; have n0_ := Aside0.mk (Kd.R_below (by (with_reducible repeat (first | apply Kd.R_alloc | apply Kd.R_drewN | apply Kd.R_drew)); exact HO359.out) hb); have n1_ := Aside0.mk (below_step (by repeat (first | (with_reducible first | exact HB.out | apply below_alloc | apply pw_below_drewN | apply below_drew1) | exact HB.out)) hb); clear HO359; clear HB; have HO359 := n0_; have HB := n1_; clear n0_ n1_; (try clear hb); (try clear hb2); (try clear hk); (try clear hi)) | (go_at_call 12; (with_reducible refine (lacquerlaw13_awake.calls kj3  t362 _ A23.out).mono ?_); rintro e w27 ⟨rfl, hb⟩; have n0_ := Aside0.mk (Kd.R_below (by (with_reducible repeat (first | apply Kd.R_alloc | apply Kd.R_drewN | apply Kd.R_drew)); exact HO359.out) hb); have n1_ := Aside0.mk (below_step (by repeat (first | (with_reducible first | exact HB.out | apply below_alloc | apply pw_below_drewN | apply below_drew1) | exact HB.out)) hb); clear HO359; clear HB; have HO359 := n0_; have HB := n1_; clear n0_ n1_; (try clear hb); (try clear hb2); (try clear hk); (try clear hi)))
                go_ret
                exact ⟨by first | rfl | (simp [errW_none, errW_some] <;> rfl) | (simp [*, errW_none, errW_some] <;> rfl), by repeat (first | (with_reducible first | exact HB.out | apply below_alloc | apply pw_below_drewN | apply below_drew1) | exact HB.out)⟩
              · rw [if_neg c22] at H
                exact absurd H (by simp)
            · rw [if_neg c20] at H
              exact absurd H (by simp)
          · rw [if_neg c19] at H
            exact absurd H (by simp)
        · rw [if_neg c18] at H
          exact absurd H (by simp)
      · rw [if_neg c16] at H
        have c16b0 : (t357 == 0) = false := beq_eq_false_iff_ne.mpr c16
        have c16b1 : (t357 != 0) = true := bne_iff_ne.mpr c16
        by_cases c28 : t356 = 0
        · rw [if_pos c28] at H
          have c28b0 : (t356 == 0) = true := beq_iff_eq.mpr c28
          have c28b1 : (t356 != 0) = false := bne_eq_false_iff_eq.mpr c28
          clear c28
          by_cases c29 : (t355.length : Int) = 0
          · rw [if_pos c29] at H
            have c29b0 : ((t355.length : Int) == 0) = true := beq_iff_eq.mpr c29
            have c29b1 : ((t355.length : Int) != 0) = false := bne_eq_false_iff_eq.mpr c29
            clear c29
            replace H := Option.bind_eq_some_iff.mp H
            obtain ⟨t363, A300, H⟩ := H
            replace H : (some t363) = some r := H
            have A30 := Aside0.mk A300
            clear A300
            obtain rfl := Option.some.inj H
            go_wp2_with (first | ((with_reducible refine gate_callee (f := 15) rfl ?_); refine goesL_ (some 45) rfl rfl Try.func15 (by kernel_rfl) rfl #[.string a1] rfl (by (try simp only [List.map_toArray, List.map_cons, List.map_nil]); first | done | rfl | (simp only [List.length_drop, List.length_take]; rfl)) ?_; (with_reducible refine (meta_Parse.calls kj3 a1 t355 t356 t357 _ A15.out).mono ?_); rintro e w31 ⟨v358, rfl, ho0, hb⟩; refine ⟨_, rfl, ?_⟩; have n0_ := Aside0.mk (Kd.R_lower ho0 (below_size (by repeat (first | (with_reducible first | exact HB.out | apply below_alloc | apply pw_below_drewN | apply below_drew1) | exact HB.out)))); have n1_ := Aside0.mk (below_step (by repeat (first | (with_reducible first | exact HB.out | apply below_alloc | apply pw_below_drewN | apply below_drew1) | exact HB.out)) hb); clear HB; have HO359 := n0_; have HB := n1_; clear n0_ n1_; (try clear hb); (try clear hb2); (try clear hk); (try clear hi); (try clear ho0); obtain ⟨Ao32, co32, eo32⟩ := Kd.R_slice HO359.out; subst eo32) | (go_at_call 12; (with_reducible refine (lacquerlaw13_awake.calls kj3  t363 _ A30.out).mono ?_); rintro e w33 ⟨rfl, hb⟩; have n0_ := Aside0.mk (Kd.R_below (by (with_reducible repeat (first | apply Kd.R_alloc | apply Kd.R_drewN | apply Kd.R_drew)); exact HO359.out) hb); have n1_ := Aside0.mk (below_step (by repeat (first | (with_reducible first | exact HB.out | apply below_alloc | apply pw_below_drewN | apply below_drew1) | exact HB.out)) hb); clear HO359; clear HB; have HO359 := n0_; have HB := n1_; clear n0_ n1_; (try clear hb); (try clear hb2); (try clear hk); (try clear hi)))
            go_ret
            exact ⟨by first | rfl | (simp [errW_none, errW_some] <;> rfl) | (simp [*, errW_none, errW_some] <;> rfl), by repeat (first | (with_reducible first | exact HB.out | apply below_alloc | apply pw_below_drewN | apply below_drew1) | exact HB.out)⟩
          · rw [if_neg c29] at H
            exact absurd H (by simp)
        · rw [if_neg c28] at H
          exact absurd H (by simp)

end Go.Proofs.Ytgihacaegmpggaa.R

/- The plain law of layer 13: blocks as a text, the reference. -/
namespace Go.Proofs.Ytgihacaegmpggaa.Plain
open Go.RowKit Go.Proofs.Ytgihacaegmpggaa Go.Proofs.Ytgihacaegmpggaa.R Go.Proofs.Ytgihacaegmpggaa.Be Go.Proofs.YtgihacaegmpggaaW.PrintWords Go.Proofs.YtgihacaegmpggaaW.PrintLast Go.Proofs.YtgihacaegmpggaaW.PrintMore
set_option linter.unusedVariables false
set_option linter.unusedSimpArgs false

/-- All bytes of a list of blocks. -/
def tl (l : List S36) : Nat := (l.map fun b => 4 + b.f1.size).sum
theorem prs_tot (s : ByteArray) : ∀ (d : Nat) (l : List S36) (p : Nat) (c : Int), (prs s d l p c).2.2 = 0 → ∃ x, (prs s d l p c).1 = l ++ x ∧ (prs s d l p c).2.1 = ((p + tl x : Nat) : Int) ∧ p + tl x ≤ s.size
  | 0, l, p, c, h => by cases h
  | d + 1, l, p, c, h => by
    unfold prs at h ⊢
    by_cases h4 : s.size < p + 4
    · rw [if_pos h4] at h
      cases h
    rw [if_neg h4] at h ⊢
    by_cases hlong : (s.size : Int) - ((p + 4 : Nat) : Int) < len3 s p
    · rw [if_pos hlong] at h
      cases h
    rw [if_neg hlong] at h ⊢
    have hn := len3_in s p
    have hb : (body s p).size = (len3 s p).toNat := by
      unfold body
      rw [ByteArray.size_extract]
      omega
    unfold nxt at h ⊢
    by_cases hbad : bad l (com c (typ s p)) (typ s p) = true
    · rw [if_pos hbad] at h
      cases h
    rw [if_neg hbad] at h ⊢
    by_cases hl : l.length = 1024
    · rw [if_pos hl] at h
      cases h
    rw [if_neg hl] at h ⊢
    by_cases hc : checkF (typ s p) (body s p) = 0
    · rw [if_pos hc] at h ⊢
      by_cases hla : 127 < bt s (p : Nat)
      · rw [if_pos hla] at h ⊢
        refine ⟨[⟨typ s p, body s p⟩], rfl, ?_, ?_⟩
        · simp only [tl, List.map_cons, List.map_nil, List.sum_cons, List.sum_nil, hb]
          omega
        · simp only [tl, List.map_cons, List.map_nil, List.sum_cons, List.sum_nil, hb]
          omega
      · rw [if_neg hla] at h ⊢
        obtain ⟨x, h1, h2, h3⟩ := prs_tot s d _ _ _ h
        refine ⟨⟨typ s p, body s p⟩ :: x, by rw [h1, List.append_assoc]; rfl, ?_, ?_⟩
        · rw [h2]
          simp only [tl, List.map_cons, List.sum_cons, hb]
          omega
        · simp only [tl, List.map_cons, List.sum_cons, hb] at h3 ⊢
          omega
    · rw [if_neg hc] at h
      exact absurd h hc
theorem bytesOf_append (a b : ByteArray) : bytesOf (a ++ b) = bytesOf a ++ bytesOf b := by
  simp [bytesOf]
/-- All blocks from one on may be. -/
def allOk (l : List S36) (i : Nat) : Prop := ∀ j, i ≤ j → j < l.length → checkF (rd_T36 l j).f0 (rd_T36 l j).f1 = 0
theorem bld_no (l : List S36) : ∀ (d i : Nat) (out : List Int), i + d = l.length → ¬ allOk l i → bld l d i out = none
  | 0, i, out, hi, h => absurd (fun j h1 h2 => by omega) h
  | d + 1, i, out, hi, h => by
    unfold bld
    by_cases h0 : checkF (rd_T36 l i).f0 (rd_T36 l i).f1 = 0
    · rw [if_pos h0]
      refine bld_no l d (i + 1) _ (by omega) (fun h2 => h (fun j h3 h4 => ?_))
      by_cases e : j = i
      · rw [e]; exact h0
      · exact h2 j (by omega) h4
    · rw [if_neg h0]
end Go.Proofs.Ytgihacaegmpggaa.Plain

/- The plain law of layer 13: the reference's Build; what was built is read as it was, what was read is built as it was. -/
namespace Go.Proofs.Ytgihacaegmpggaa.Plain
open Go.RowKit Go.Proofs.Ytgihacaegmpggaa Go.Proofs.Ytgihacaegmpggaa.R Go.Proofs.Ytgihacaegmpggaa.Be Go.Proofs.YtgihacaegmpggaaW.PrintWords Go.Proofs.YtgihacaegmpggaaW.PrintLast Go.Proofs.YtgihacaegmpggaaW.PrintMore
set_option linter.unusedVariables false
set_option linter.unusedSimpArgs false

theorem bytesOf_get (s : ByteArray) (j : Nat) (h : j < (bytesOf s).length) : (bytesOf s)[j] = bt s (j : Nat) := by
  have h2 : j < s.size := by rwa [bytesOf_length] at h
  simp [bytesOf, bt, h2]
  rfl
theorem strOfNums_bytesOf (s : ByteArray) : strOfNums (bytesOf s) = s := by
  apply toList_inj
  rw [Be.toList_data, Be.toList_data]
  simp only [strOfNums, bytesOf, List.map_map]
  conv => rhs; rw [← List.map_id s.data.toList]
  refine List.map_congr_left fun x _ => ?_
  simp [UInt8.toNat_ofNat']
theorem bytes_one (s : ByteArray) (p : Nat) (h : p + 1 ≤ s.size) : bytesOf (s.extract p (p + 1)) = [bt s (p : Nat)] := by
  have hz : (s.extract p (p + 1)).size = 1 := by rw [ByteArray.size_extract]; omega
  refine List.ext_getElem (by rw [bytesOf_length, hz]; rfl) fun j h1 h2 => ?_
  have hj : j = 0 := by rw [bytesOf_length, hz] at h1; omega
  subst hj
  rw [bytesOf_get, bt_extract s p (p + 1) 0 h (by omega)]
  rfl
theorem bytes3 (x : ByteArray) (h : x.size = 3) : bytesOf x = (leL 3 (fbR x)).reverse := by
  have h0 := bt_in x 0
  have h1 := bt_in x 1
  have h2 := bt_in x 2
  have e : fbR x = (bt x 0 * 256 + bt x 1) * 256 + bt x 2 := by
    have : fromL x 3 = (bt x 0 * 256 + bt x 1) * 256 + bt x 2 := by simp [fromL]
    unfold fbR
    rw [if_neg (by omega), h, this, if_neg (by omega)]
  have hb : bytesOf x = [bt x 0, bt x 1, bt x 2] := by
    refine List.ext_getElem (by rw [bytesOf_length, h]; rfl) fun j h1 h2 => ?_
    have hj : j < 3 := by rw [bytesOf_length, h] at h1; exact h1
    rw [bytesOf_get]
    rcases (show j = 0 ∨ j = 1 ∨ j = 2 by omega) with rfl | rfl | rfl <;> rfl
  rw [hb, e]
  simp [leL]
  omega
theorem bytes_cut (s : ByteArray) (a b c : Nat) (h1 : a ≤ b) (h2 : b ≤ c) : bytesOf (s.extract a c) = bytesOf (s.extract a b) ++ bytesOf (s.extract b c) := by
  rw [← bytesOf_append, ← ByteArray.extract_eq_extract_append_extract b h1 h2]

/-- The bytes of the blocks from one on. -/
def pr (l : List S36) : Nat → Nat → List Int
  | 0, _ => []
  | d + 1, i => prt (rd_T36 l i) (decide (i + 1 = l.length)) ++ pr l d (i + 1)
theorem pr_length (l : List S36) : ∀ d i, (pr l d i).length = tot l d i
  | 0, _ => rfl
  | d + 1, i => by
    unfold pr tot
    rw [List.length_append, prt_length, pr_length l d (i + 1)]
theorem rd_of (l : List S36) (i : Nat) (h : i < l.length) : rd_T36 l i = l[i] := by simp [rd_T36, h]
theorem tot_tl (l : List S36) : ∀ d i, i + d = l.length → tot l d i = tl (l.drop i)
  | 0, i, h => by
    rw [List.drop_eq_nil_of_le (by omega)]
    rfl
  | d + 1, i, h => by
    have hlt : i < l.length := by omega
    unfold tot
    rw [tot_tl l d (i + 1) (by omega), rd_of l i hlt, List.drop_eq_getElem_cons hlt]
    simp only [tl, List.map_cons, List.sum_cons]
theorem bld_pr (l : List S36) : ∀ (d i : Nat) (out : List Int), i + d = l.length → allOk l i → bld l d i out = some (out ++ pr l d i)
  | 0, i, out, hi, h => by simp [bld, pr]
  | d + 1, i, out, hi, h => by
    have h0 := h i (Nat.le_refl _) (by omega)
    unfold bld pr
    rw [if_pos h0, bld_pr l d (i + 1) _ (by omega) (fun j h1 h2 => h j (by omega) h2), List.append_assoc]

/-- What was read stands in the text, byte by byte. -/
theorem prs_bytes (s : ByteArray) : ∀ (d : Nat) (l : List S36) (p : Nat) (c : Int), (prs s d l p c).2.2 = 0 →
    ∃ x q, prs s d l p c = (l ++ x, ((q : Nat) : Int), 0) ∧ p < q ∧ q ≤ s.size ∧ x ≠ [] ∧ (∀ b ∈ x, checkF b.f0 b.f1 = 0) ∧ bytesOf (s.extract p q) = pr (l ++ x) x.length l.length
  | 0, l, p, c, h => by cases h
  | d + 1, l, p, c, h => by
    unfold prs at h ⊢
    by_cases h4 : s.size < p + 4
    · rw [if_pos h4] at h
      cases h
    rw [if_neg h4] at h ⊢
    by_cases hlong : (s.size : Int) - ((p + 4 : Nat) : Int) < len3 s p
    · rw [if_pos hlong] at h
      cases h
    rw [if_neg hlong] at h ⊢
    have hn := len3_in s p
    have hb : (body s p).size = (len3 s p).toNat := by
      unfold body
      rw [ByteArray.size_extract]
      omega
    have hq : p + 4 + (len3 s p).toNat ≤ s.size := by omega
    have hbi := bt_in s (p : Nat)
    have h3 : bytesOf (s.extract (p + 1) (p + 4)) = (leL 3 ((body s p).size : Int)).reverse := by
      rw [bytes3 _ (by rw [ByteArray.size_extract]; omega), hb]
      congr 2
      show len3 s p = _
      omega
    have hpart : ∀ last : Bool, (last = true ↔ 127 < bt s (p : Nat)) → bytesOf (s.extract p (p + 4 + (len3 s p).toNat)) = prt ⟨typ s p, body s p⟩ last := by
      intro last hla
      rw [bytes_cut s p (p + 1) _ (by omega) (by omega), bytes_cut s (p + 1) (p + 4) _ (by omega) (by omega), bytes_one s p (by omega), h3]
      unfold prt hd
      show bt s (p : Nat) :: _ = _
      congr 1
      show bt s (p : Nat) = if last = true then typ s p + 128 else typ s p
      unfold typ
      by_cases h7 : 127 < bt s (p : Nat)
      · rw [if_pos (hla.2 h7)]
        omega
      · rw [if_neg (fun e => h7 (hla.1 e))]
        omega
    unfold nxt at h ⊢
    by_cases hbad : bad l (com c (typ s p)) (typ s p) = true
    · rw [if_pos hbad] at h
      cases h
    rw [if_neg hbad] at h ⊢
    by_cases hl : l.length = 1024
    · rw [if_pos hl] at h
      cases h
    rw [if_neg hl] at h ⊢
    by_cases hc : checkF (typ s p) (body s p) = 0
    · rw [if_pos hc] at h ⊢
      by_cases hla : 127 < bt s (p : Nat)
      · rw [if_pos hla] at h ⊢
        refine ⟨[⟨typ s p, body s p⟩], p + 4 + (len3 s p).toNat, rfl, by omega, hq, by simp, ?_, ?_⟩
        · intro b hb
          rw [List.mem_singleton] at hb
          subst hb
          exact hc
        · rw [hpart true (by simp [hla])]
          show _ = pr _ 1 _
          unfold pr
          rw [rd_of _ _ (by simp), decide_eq_true (by simp)]
          simp [pr]
      · rw [if_neg hla] at h ⊢
        obtain ⟨x, q, h1, h2, h3, h5, h6, h7⟩ := prs_bytes s d _ _ _ h
        refine ⟨⟨typ s p, body s p⟩ :: x, q, by rw [h1, List.append_assoc]; rfl, by omega, h3, by simp, ?_, ?_⟩
        · intro b hb
          rcases List.mem_cons.1 hb with rfl | hb
          · exact hc
          · exact h6 b hb
        · rw [bytes_cut s p (p + 4 + (len3 s p).toNat) _ (by omega) (by omega), h7, hpart false (by simp; omega)]
          rw [List.length_cons]
          conv => rhs; unfold pr
          have hx : 0 < x.length := List.length_pos_iff.2 h5
          rw [rd_of _ _ (by simp), decide_eq_false (by simp; omega)]
          simp
    · rw [if_neg hc] at h
      exact absurd h hc
theorem prs_bad (s : ByteArray) : ∀ (d : Nat) (l : List S36) (p : Nat) (c : Int), (prs s d l p c).2.2 ≠ 0 → (prs s d l p c).1 = [] ∧ (prs s d l p c).2.1 = 0
  | 0, l, p, c, h => ⟨rfl, rfl⟩
  | d + 1, l, p, c, h => by
    unfold prs at h ⊢
    split
    · exact ⟨rfl, rfl⟩
    · rename_i h4
      rw [if_neg h4] at h
      split
      · exact ⟨rfl, rfl⟩
      · rename_i h5
        rw [if_neg h5] at h
        unfold nxt at h ⊢
        split
        · exact ⟨rfl, rfl⟩
        · rename_i h6
          rw [if_neg h6] at h
          split
          · exact ⟨rfl, rfl⟩
          · rename_i h7
            rw [if_neg h7] at h
            split
            · rename_i h8
              rw [if_pos h8] at h
              split
              · rename_i h9
                rw [if_pos h9] at h
                exact absurd rfl h
              · rename_i h9
                rw [if_neg h9] at h
                exact prs_bad s d _ _ _ h
            · exact ⟨rfl, rfl⟩
theorem cut_same {s z : ByteArray} {q : Nat} (he : s.extract 0 q = z.extract 0 q) (a b : Nat) (hb : b ≤ q) : s.extract a b = z.extract a b := by
  have := congrArg (fun y => y.extract a b) he
  simp only [ByteArray.extract_extract, Nat.zero_add, Nat.min_eq_left hb] at this
  exact this
theorem bt_same {s z : ByteArray} {q : Nat} (he : s.extract 0 q = z.extract 0 q) (h1 : q ≤ s.size) (h2 : q ≤ z.size) (p : Nat) (hp : p < q) : bt s (p : Nat) = bt z (p : Nat) := by
  have e1 := bt_extract s 0 q p h1 (by omega)
  have e2 := bt_extract z 0 q p h2 (by omega)
  rw [Nat.zero_add] at e1 e2
  rw [← e1, ← e2, he]
/-- A text that begins alike is read alike. -/
theorem prs_ext (s z : ByteArray) (m : List S36) (q : Nat) (he : s.extract 0 q = z.extract 0 q) (hqs : q ≤ s.size) (hqz : q ≤ z.size) : ∀ (d d' : Nat) (l : List S36) (p : Nat) (c : Int), prs s d l p c = (m, ((q : Nat) : Int), 0) → z.size - p < d' →
    prs z d' l p c = (m, ((q : Nat) : Int), 0)
  | 0, d', l, p, c, h, hd => by cases h
  | d + 1, 0, l, p, c, h, hd => by omega
  | d + 1, d' + 1, l, p, c, h, hd => by
    unfold prs at h ⊢
    by_cases h4 : s.size < p + 4
    · rw [if_pos h4] at h
      cases h
    rw [if_neg h4] at h
    by_cases hlong : (s.size : Int) - ((p + 4 : Nat) : Int) < len3 s p
    · rw [if_pos hlong] at h
      cases h
    rw [if_neg hlong] at h
    have hn := len3_in s p
    have hle : p + 4 + (len3 s p).toNat ≤ q := by
      unfold nxt at h
      split at h
      · cases h
      · split at h
        · cases h
        · split at h
          · split at h
            · injection h with h1 h2
              injection h2 with h2 h3
              omega
            · obtain ⟨x, q2, h1, h2, _⟩ := prs_bytes s d _ _ _ (by rw [h])
              rw [h1] at h
              injection h with h5 h6
              injection h6 with h6 h7
              omega
          · rename_i h0
            injection h with h1 h2
            injection h2 with h2 h3
            exact absurd h3 h0
    have e1 : len3 z p = len3 s p := by
      unfold len3
      rw [cut_same he (p + 1) (p + 4) (by omega)]
    have e2 : typ z p = typ s p := by
      unfold typ
      rw [bt_same he hqs hqz p (by omega)]
    have e3 : body z p = body s p := by
      unfold body
      rw [e1, cut_same he _ _ hle]
    rw [if_neg (by omega), e1, if_neg (by omega), e2, e3, ← bt_same he hqs hqz p (by omega)]
    unfold nxt at h ⊢
    split
    · rename_i h5
      rw [if_pos h5] at h
      exact h
    · rename_i h5
      rw [if_neg h5] at h
      split
      · rename_i h6
        rw [if_pos h6] at h
        exact h
      · rename_i h6
        rw [if_neg h6] at h
        split
        · rename_i h7
          rw [if_pos h7] at h
          split
          · rename_i h8
            rw [if_pos h8] at h
            exact h
          · rename_i h8
            rw [if_neg h8] at h
            exact prs_ext s z m q he hqs hqz d d' _ _ _ h (by omega)
        · rename_i h7
          rw [if_neg h7] at h
          exact h
theorem parse_ext {s z : ByteArray} {m : List S36} {q : Nat} (h : parseF s = (m, ((q : Nat) : Int), 0)) (he : s.extract 0 q = z.extract 0 q) (hqs : q ≤ s.size) (hqz : q ≤ z.size) : parseF z = (m, ((q : Nat) : Int), 0) :=
  prs_ext s z m q he hqs hqz _ _ _ _ _ h (by omega)
theorem out_length (l : List S36) : (pr l l.length 0).length = tl l := by
  rw [pr_length, tot_tl l l.length 0 (by omega), List.drop_zero]
/-- What Build tells. -/
theorem build_zero {l : List S36} (h : (buildF l).2 = 0) : buildF l = ((buildF l).1, 0) ∧ parseF (buildF l).1 = (l, ((buildF l).1.size : Int), 0) := by
  unfold buildF at h ⊢
  by_cases hok : allOk l 0
  · rw [bld_pr l l.length 0 [] (by omega) hok, List.nil_append] at h ⊢
    generalize hout : pr l l.length 0 = out at h ⊢
    have hlen : out.length = tl l := by rw [← hout]; exact out_length l
    unfold fin_ at h ⊢
    by_cases h0 : (parseF (strOfNums out)).2.2 = 0
    · simp only [h0, if_true] at h ⊢
      by_cases h1 : sameB l (parseF (strOfNums out)).1 = true
      · simp only [h1, if_true] at h ⊢
        refine ⟨trivial, ?_⟩
        have e := sameB_eq h1
        obtain ⟨x, h2, h3, h4⟩ := prs_tot (strOfNums out) _ _ _ _ h0
        have h2' : (parseF (strOfNums out)).1 = x := by rw [List.nil_append] at h2; exact h2
        have hx : x = l := by rw [← h2', ← e]
        have h3' : (parseF (strOfNums out)).2.1 = ((0 + tl x : Nat) : Int) := h3
        rw [hx, Nat.zero_add, ← hlen, ← size_nums3 out] at h3'
        rw [← h0, ← h3']
        conv => lhs; rw [show parseF (strOfNums out) = ((parseF (strOfNums out)).1, (parseF (strOfNums out)).2.1, (parseF (strOfNums out)).2.2) from rfl]
        rw [← e]
      · simp only [h1, if_false] at h
        cases h
    · simp only [h0, if_false] at h
      cases h
  · rw [bld_no l l.length 0 [] (by omega) hok] at h
    cases h
/-- What was read is built as it was. -/
theorem build_read {s : ByteArray} (h : (parseF s).2.2 = 0) : ∃ q : Nat, (parseF s).2.1 = ((q : Nat) : Int) ∧ q ≤ s.size ∧ buildF (parseF s).1 = (s.extract 0 q, 0) ∧ tl (parseF s).1 = q := by
  obtain ⟨x, q, h1, h2, h3, h4, h5, h6⟩ := prs_bytes s (s.size + 1) [] 0 0 h
  have hp : parseF s = (x, ((q : Nat) : Int), 0) := h1
  have hok : allOk x 0 := fun j _ hj => by
    rw [rd_of x j hj]
    exact h5 _ (List.getElem_mem hj)
  have h6' : bytesOf (s.extract 0 q) = pr x x.length 0 := h6
  have hz : (s.extract 0 q).size = q := by rw [ByteArray.size_extract]; omega
  have hlen := out_length x
  rw [← h6', bytesOf_length, hz] at hlen
  refine ⟨q, by rw [hp], h3, ?_, by rw [hp]; exact hlen.symm⟩
  have he : parseF (s.extract 0 q) = (x, ((q : Nat) : Int), 0) := parse_ext hp (by rw [ByteArray.extract_extract]; congr 1; omega) h3 (by rw [hz]; omega)
  rw [hp]
  show buildF x = _
  unfold buildF
  rw [bld_pr x x.length 0 [] (by omega) hok, List.nil_append, ← h6']
  unfold fin_
  simp only [strOfNums_bytesOf, he, sameB_refl, if_true]
end Go.Proofs.Ytgihacaegmpggaa.Plain

/- The plain law of layer 13: the reference's Build comes to the same; MetaBack. -/
namespace Go.Proofs.Ytgihacaegmpggaa.Plain
open Go.RowKit Go.Proofs.Ytgihacaegmpggaa Go.Proofs.Ytgihacaegmpggaa.R Go.Proofs.Ytgihacaegmpggaa.Be Go.Proofs.YtgihacaegmpggaaW.PrintWords Go.Proofs.YtgihacaegmpggaaW.PrintLast Go.Proofs.YtgihacaegmpggaaW.PrintMore
set_option linter.unusedVariables false
set_option linter.unusedSimpArgs false

theorem build_ev2 (l : List S36) (hl : l.length ≤ 140737488355328 / 24) (ht : tl l < 140737488355328) : Ev (fun k => meta_Build.f k l) (buildF l) :=
  build_ev l (by omega) (by rw [tot_tl l l.length 0 (by omega), List.drop_zero]; exact ht)
theorem build_size {l : List S36} (h : (buildF l).2 = 0) : (buildF l).1.size = tl l := by
  obtain ⟨_, h1⟩ := build_zero h
  obtain ⟨x, h2, h3, _⟩ := prs_tot (buildF l).1 _ _ _ _ (show (parseF (buildF l).1).2.2 = 0 by rw [h1])
  have h2' : (parseF (buildF l).1).1 = x := by rw [List.nil_append] at h2; exact h2
  have h3' : (parseF (buildF l).1).2.1 = ((0 + tl x : Nat) : Int) := h3
  rw [h1] at h2' h3'
  have h4 : l = x := h2'
  have h5 : ((buildF l).1.size : Int) = ((0 + tl x : Nat) : Int) := h3'
  rw [← h4] at h5
  omega
theorem back_j0 (s : ByteArray) (hs : s.size ≤ 140737488351232) : Ev (fun k => lacquerlaw13_MetaBack.j0 k s) true := by
  refine Ev.step (f := fun k => (meta_Parse.f k s).bind fun bt355 => (if bt355.2.2 = 0 then ((meta_Build.f k bt355.1).bind fun bt360 => (if bt360.2 = 0 then (if bt355.2.1 ≤ (s.size : Int) then (if 0 ≤ bt355.2.1 then (if bt360.1.toList = (s.extract 0 (bt355.2.1 : Int).toNat).toList then ((lacquerlaw13_awake.f k).bind fun t362 => (some t362)) else (none)) else (none)) else (none)) else (none))) else (if bt355.2.1 = 0 then (if (bt355.1.length : Int) = 0 then ((lacquerlaw13_awake.f k).bind fun t363 => (some t363)) else (none)) else (none)))) (fun k => by simp only [lacquerlaw13_MetaBack.j0]) ?_
  refine Ev.bind (parse_ev s (by omega)) ?_
  by_cases h0 : (parseF s).2.2 = 0
  · obtain ⟨q, h1, h2, h3, h4⟩ := build_read h0
    have hm : (parseF s).1.length ≤ 1024 := prs_len s _ _ _ _ (by simp)
    have hb := build_ev2 (parseF s).1 (by omega) (by omega)
    rw [h3] at hb
    refine Ev.congr (fun k => if_pos h0) (Ev.bind hb ?_)
    refine Ev.congr (f := fun k => (lacquerlaw13_awake.f k).bind fun t => some t) (fun k => ?_) (Ev.bind awake_ev (Ev.now _))
    rw [h1, if_pos rfl, if_pos (by omega), if_pos (by omega), Int.toNat_natCast, if_pos rfl]
  · obtain ⟨h1, h2⟩ := prs_bad s _ _ _ _ h0
    have h1' : (parseF s).1 = [] := h1
    have h2' : (parseF s).2.1 = 0 := h2
    refine Ev.congr (f := fun k => (lacquerlaw13_awake.f k).bind fun t => some t) (fun k => ?_) (Ev.bind awake_ev (Ev.now _))
    rw [if_neg h0, if_pos h2', h1', if_pos (by simp)]
theorem back_ev (l : List S36) (s : ByteArray) (hl : l.length ≤ 140737488355328 / 24) (ht : tl l < 140737488351232) (hs : s.size ≤ 140737488351232) : Ev (fun k => lacquerlaw13_MetaBack.f k l s) true := by
  refine Ev.bind (build_ev2 l hl (by omega)) ?_
  by_cases h0 : (buildF l).2 = 0
  · obtain ⟨_, h1⟩ := build_zero h0
    have hz := build_size h0
    have hx : ((buildF l).1 ++ (⟨#[255]⟩ : ByteArray)).size = (buildF l).1.size + 1 := by rw [ByteArray.size_append]; rfl
    have h2 : parseF ((buildF l).1 ++ (⟨#[255]⟩ : ByteArray)) = (l, ((buildF l).1.size : Int), 0) := by
      refine parse_ext h1 ?_ (Nat.le_refl _) (by omega)
      rw [ByteArray.extract_zero_size]
      exact (ByteArray.extract_append_eq_left rfl).symm
    have hp := parse_ev ((buildF l).1 ++ (⟨#[255]⟩ : ByteArray)) (by omega)
    rw [h2] at hp
    refine Ev.congr (fun k => if_pos h0) (Ev.congr (fun k => if_pos (by omega)) (Ev.bind hp ?_))
    have hsame := same_ev l l (by omega)
    rw [sameB_refl] at hsame
    refine Ev.congr (f := fun k => (lacquerref13_Same.f k l l).bind fun t => if t = true then lacquerlaw13_MetaBack.j0 k s else none) (fun k => ?_) (Ev.bind hsame (Ev.congr (fun k => if_pos rfl) (back_j0 s hs)))
    rw [if_pos rfl, if_pos rfl]
  · exact Ev.congr (fun k => if_neg h0) (back_j0 s hs)
theorem Back_any (l : List S36) (A : Option Addr) (c : Nat) (s : ByteArray) (w : World) (hr : Kd.C k36 w A l.length l) (hc : l.length ≤ c) (hl : l.length ≤ 140737488355328 / 24) (ht : tl l < 140737488351232) (hs : s.size ≤ 140737488351232) :
    Calls Try.prog 7 #[.slice A l.length c, .string s] w fun e w' => e = .returned (.bool true) ∧ Below w.heap.size w w' := by
  obtain ⟨k, hk⟩ := (back_ev l s hl ht hs).rounds
  exact lacquerlaw13_MetaBack.calls k A c l s true w hr hc hk
end Go.Proofs.Ytgihacaegmpggaa.Plain

/- The laws MetaBuilds and MetaBack of layer 13, as contracts. -/
namespace Go.Proofs.Ytgihacaegmpggaa.Plain
open Go.RowKit Go.Proofs.Ytgihacaegmpggaa Go.Proofs.Ytgihacaegmpggaa.R Go.Proofs.Ytgihacaegmpggaa.Be Go.Proofs.YtgihacaegmpggaaW.PrintWords Go.Proofs.YtgihacaegmpggaaW.PrintLast Go.Proofs.YtgihacaegmpggaaW.PrintMore
set_option linter.unusedVariables false
set_option linter.unusedSimpArgs false

theorem bulk_le {l : List S36} {z : S36 → Nat} {m : Nat} (h : (l.map z).sum + 1 ≤ m) (hz : ∀ b, b.f1.size + 3 ≤ z b) : l.length ≤ m ∧ tl l ≤ 2 * m := by
  have key : ∀ l : List S36, l.length ≤ (l.map z).sum ∧ tl l ≤ 2 * (l.map z).sum := by
    intro l
    induction l with
    | nil => exact ⟨Nat.le_refl _, Nat.zero_le _⟩
    | cons b r ih =>
      have := hz b
      simp only [tl, List.map_cons, List.sum_cons, List.length_cons] at ih ⊢
      omega
  have := key l
  omega
theorem info36 : (Try.prog.info? 36).map (fun i => (i.zero, i.size, i.bytes)) = some (some (.agg #[.int .i64 0, .string ⟨#[]⟩]), 2, 24) := by kernel_rfl
section
variable {ops : Array Oper} {o : Oper} {a : Act} {Q : Exit → Act → World → Prop} {rest : List Oper}
end
end Go.Proofs.Ytgihacaegmpggaa.Plain
